/- args.rows, walked: the map of parts. Printed by gen_rowsw.py. -/
import Derived.Test.YtgmhapjidbdhnaaGreatJR
set_option linter.unusedVariables false
set_option linter.unusedSimpArgs false
namespace Go.Proofs.YtgmhapjidbdhnaaGreat
open Go.RowKit
section
variable {lo K A0 : Nat} {Q : Exit → Act → World → Prop}
theorem rob_1 : ∀ o, opsR[1]? = some o → 0 < 100 ∧ ∃ x, o.op = Op.insert 64 (.tmp 66) (.const (.int .u32 ((0 : Nat) : Int))) x ∧ ∀ (a : Act) (w : World), (∀ t ∈ ([] : List Nat), KIs lo K A0 (kT K A0 t) (a.tmps.getD 66 undef) (a.tmps.getD t undef) w) → KIs lo K A0 (.row (rowsOf 0)) (a.tmps.getD 66 undef) (a.eval x) w := by
  intro o ho
  refine ⟨by decide, .const (.slice none 0 0), opOf ho (by kernel_rfl), fun a w hn => ?_⟩
  exact ⟨[], .inl ⟨rfl, rfl⟩, rfl, (fun q hq => by cases hq), (fun g hg => by cases hg)⟩
theorem rob_2 : ROb lo K A0 Q 2 [13] := by
  intro o ho a w hlo hn Kk hK
  have hd : o.dst = some 67 := dstIs ho (by kernel_rfl)
  have h0 : KIs lo K A0 (.row [.h]) (a.tmps.getD 66 undef) (a.tmps.getD 13 undef) w := hn 13 (by simp)
  exact op_move (x := .tmp 13) (opOf ho (by kernel_rfl)) rfl (hK _ _ (Below.refl _ _) (fun t ht => by rw [hd] at ht; injection ht with ht; subst ht; exact h0))
theorem rob_3 : ∀ o, opsR[3]? = some o → 1 < 100 ∧ ∃ x, o.op = Op.insert 64 (.tmp 66) (.const (.int .u32 ((1 : Nat) : Int))) x ∧ ∀ (a : Act) (w : World), (∀ t ∈ ([67] : List Nat), KIs lo K A0 (kT K A0 t) (a.tmps.getD 66 undef) (a.tmps.getD t undef) w) → KIs lo K A0 (.row (rowsOf 1)) (a.tmps.getD 66 undef) (a.eval x) w := by
  intro o ho
  refine ⟨by decide, .tmp 67, opOf ho (by kernel_rfl), fun a w hn => ?_⟩
  have h0 : KIs lo K A0 (.row [.h]) (a.tmps.getD 66 undef) (a.tmps.getD 67 undef) w := hn 67 (by simp)
  exact h0
theorem rob_4 : ROb lo K A0 Q 4 [13] := by
  intro o ho a w hlo hn Kk hK
  have hd : o.dst = some 68 := dstIs ho (by kernel_rfl)
  have h0 : KIs lo K A0 (.row [.h]) (a.tmps.getD 66 undef) (a.tmps.getD 13 undef) w := hn 13 (by simp)
  exact op_move (x := .tmp 13) (opOf ho (by kernel_rfl)) rfl (hK _ _ (Below.refl _ _) (fun t ht => by rw [hd] at ht; injection ht with ht; subst ht; exact h0))
theorem rob_5 : ∀ o, opsR[5]? = some o → 5 < 100 ∧ ∃ x, o.op = Op.insert 64 (.tmp 66) (.const (.int .u32 ((5 : Nat) : Int))) x ∧ ∀ (a : Act) (w : World), (∀ t ∈ ([68] : List Nat), KIs lo K A0 (kT K A0 t) (a.tmps.getD 66 undef) (a.tmps.getD t undef) w) → KIs lo K A0 (.row (rowsOf 5)) (a.tmps.getD 66 undef) (a.eval x) w := by
  intro o ho
  refine ⟨by decide, .tmp 68, opOf ho (by kernel_rfl), fun a w hn => ?_⟩
  have h0 : KIs lo K A0 (.row [.h]) (a.tmps.getD 66 undef) (a.tmps.getD 68 undef) w := hn 68 (by simp)
  exact h0
theorem rob_6 : ROb lo K A0 Q 6 [13] := by
  intro o ho a w hlo hn Kk hK
  have hd : o.dst = some 69 := dstIs ho (by kernel_rfl)
  have h0 : KIs lo K A0 (.row [.h]) (a.tmps.getD 66 undef) (a.tmps.getD 13 undef) w := hn 13 (by simp)
  exact op_move (x := .tmp 13) (opOf ho (by kernel_rfl)) rfl (hK _ _ (Below.refl _ _) (fun t ht => by rw [hd] at ht; injection ht with ht; subst ht; exact h0))
theorem rob_7 : ∀ o, opsR[7]? = some o → 18 < 100 ∧ ∃ x, o.op = Op.insert 64 (.tmp 66) (.const (.int .u32 ((18 : Nat) : Int))) x ∧ ∀ (a : Act) (w : World), (∀ t ∈ ([69] : List Nat), KIs lo K A0 (kT K A0 t) (a.tmps.getD 66 undef) (a.tmps.getD t undef) w) → KIs lo K A0 (.row (rowsOf 18)) (a.tmps.getD 66 undef) (a.eval x) w := by
  intro o ho
  refine ⟨by decide, .tmp 69, opOf ho (by kernel_rfl), fun a w hn => ?_⟩
  have h0 : KIs lo K A0 (.row [.h]) (a.tmps.getD 66 undef) (a.tmps.getD 69 undef) w := hn 69 (by simp)
  exact h0
theorem rob_8 : ROb lo K A0 Q 8 [13] := by
  intro o ho a w hlo hn Kk hK
  have hd : o.dst = some 70 := dstIs ho (by kernel_rfl)
  have h0 : KIs lo K A0 (.row [.h]) (a.tmps.getD 66 undef) (a.tmps.getD 13 undef) w := hn 13 (by simp)
  exact op_move (x := .tmp 13) (opOf ho (by kernel_rfl)) rfl (hK _ _ (Below.refl _ _) (fun t ht => by rw [hd] at ht; injection ht with ht; subst ht; exact h0))
theorem rob_9 : ∀ o, opsR[9]? = some o → 19 < 100 ∧ ∃ x, o.op = Op.insert 64 (.tmp 66) (.const (.int .u32 ((19 : Nat) : Int))) x ∧ ∀ (a : Act) (w : World), (∀ t ∈ ([70] : List Nat), KIs lo K A0 (kT K A0 t) (a.tmps.getD 66 undef) (a.tmps.getD t undef) w) → KIs lo K A0 (.row (rowsOf 19)) (a.tmps.getD 66 undef) (a.eval x) w := by
  intro o ho
  refine ⟨by decide, .tmp 70, opOf ho (by kernel_rfl), fun a w hn => ?_⟩
  have h0 : KIs lo K A0 (.row [.h]) (a.tmps.getD 66 undef) (a.tmps.getD 70 undef) w := hn 70 (by simp)
  exact h0
theorem rob_10 : ROb lo K A0 Q 10 [13] := by
  intro o ho a w hlo hn Kk hK
  have hd : o.dst = some 71 := dstIs ho (by kernel_rfl)
  have h0 : KIs lo K A0 (.row [.h]) (a.tmps.getD 66 undef) (a.tmps.getD 13 undef) w := hn 13 (by simp)
  exact op_move (x := .tmp 13) (opOf ho (by kernel_rfl)) rfl (hK _ _ (Below.refl _ _) (fun t ht => by rw [hd] at ht; injection ht with ht; subst ht; exact h0))
theorem rob_11 : ∀ o, opsR[11]? = some o → 20 < 100 ∧ ∃ x, o.op = Op.insert 64 (.tmp 66) (.const (.int .u32 ((20 : Nat) : Int))) x ∧ ∀ (a : Act) (w : World), (∀ t ∈ ([71] : List Nat), KIs lo K A0 (kT K A0 t) (a.tmps.getD 66 undef) (a.tmps.getD t undef) w) → KIs lo K A0 (.row (rowsOf 20)) (a.tmps.getD 66 undef) (a.eval x) w := by
  intro o ho
  refine ⟨by decide, .tmp 71, opOf ho (by kernel_rfl), fun a w hn => ?_⟩
  have h0 : KIs lo K A0 (.row [.h]) (a.tmps.getD 66 undef) (a.tmps.getD 71 undef) w := hn 71 (by simp)
  exact h0
theorem rob_12 : ROb lo K A0 Q 12 [3] := by
  intro o ho a w hlo hn Kk hK
  have hd : o.dst = some 72 := dstIs ho (by kernel_rfl)
  have h0 : KIs lo K A0 (.part .h) (a.tmps.getD 66 undef) (a.tmps.getD 3 undef) w := hn 3 (by simp)
  exact op_move (x := .tmp 3) (opOf ho (by kernel_rfl)) rfl (hK _ _ (Below.refl _ _) (fun t ht => by rw [hd] at ht; injection ht with ht; subst ht; exact h0))
theorem rob_13 : ROb lo K A0 Q 13 [8] := by
  intro o ho a w hlo hn Kk hK
  have hd : o.dst = some 73 := dstIs ho (by kernel_rfl)
  have h0 : KIs lo K A0 (.part .set) (a.tmps.getD 66 undef) (a.tmps.getD 8 undef) w := hn 8 (by simp)
  exact op_move (x := .tmp 8) (opOf ho (by kernel_rfl)) rfl (hK _ _ (Below.refl _ _) (fun t ht => by rw [hd] at ht; injection ht with ht; subst ht; exact h0))
theorem rob_14 : ROb lo K A0 Q 14 [1] := by
  intro o ho a w hlo hn Kk hK
  have hd : o.dst = some 74 := dstIs ho (by kernel_rfl)
  have h0 : KIs lo K A0 (.a0) (a.tmps.getD 66 undef) (a.tmps.getD 1 undef) w := hn 1 (by simp)
  exact op_load (x := .tmp 1) agg_ptrArgs (opOf ho (by kernel_rfl)) h0.1 h0.2.2.2 (hK _ _ (Below.refl _ _) (fun t ht => by rw [hd] at ht; injection ht with ht; subst ht; exact rfl))
theorem rob_15 : ROb lo K A0 Q 15 [74] := by
  intro o ho a w hlo hn Kk hK
  have hd : o.dst = some 75 := dstIs ho (by kernel_rfl)
  have h0 : KIs lo K A0 (.ex (.pointer (some ⟨K, 0, none⟩))) (a.tmps.getD 66 undef) (a.tmps.getD 74 undef) w := hn 74 (by simp)
  exact op_nil (x := .tmp 74) (opOf ho (by kernel_rfl)) h0 (hK _ _ (Below.refl _ _) (fun t ht => by rw [hd] at ht; injection ht with ht; subst ht; exact rfl))
theorem rob_16 : ROb lo K A0 Q 16 [75] := by
  intro o ho a w hlo hn Kk hK
  have hd : o.dst = some 76 := dstIs ho (by kernel_rfl)
  have h0 : KIs lo K A0 (.ex (.pointer (some ⟨K, 0, none⟩))) (a.tmps.getD 66 undef) (a.tmps.getD 75 undef) w := hn 75 (by simp)
  exact op_field (x := .tmp 75) 6 (fld6 K) (opOf ho (by kernel_rfl)) h0 (hK _ _ (Below.refl _ _) (fun t ht => by rw [hd] at ht; injection ht with ht; subst ht; exact rfl))
theorem rob_17 : ROb lo K A0 Q 17 [1] := by
  intro o ho a w hlo hn Kk hK
  have hd : o.dst = some 77 := dstIs ho (by kernel_rfl)
  have h0 : KIs lo K A0 (.a0) (a.tmps.getD 66 undef) (a.tmps.getD 1 undef) w := hn 1 (by simp)
  exact op_load (x := .tmp 1) agg_ptrArgs (opOf ho (by kernel_rfl)) h0.1 h0.2.2.2 (hK _ _ (Below.refl _ _) (fun t ht => by rw [hd] at ht; injection ht with ht; subst ht; exact rfl))
theorem rob_18 : ROb lo K A0 Q 18 [77] := by
  intro o ho a w hlo hn Kk hK
  have hd : o.dst = some 78 := dstIs ho (by kernel_rfl)
  have h0 : KIs lo K A0 (.ex (.pointer (some ⟨K, 0, none⟩))) (a.tmps.getD 66 undef) (a.tmps.getD 77 undef) w := hn 77 (by simp)
  exact op_nil (x := .tmp 77) (opOf ho (by kernel_rfl)) h0 (hK _ _ (Below.refl _ _) (fun t ht => by rw [hd] at ht; injection ht with ht; subst ht; exact rfl))
theorem rob_19 : ROb lo K A0 Q 19 [78] := by
  intro o ho a w hlo hn Kk hK
  have hd : o.dst = some 79 := dstIs ho (by kernel_rfl)
  have h0 : KIs lo K A0 (.ex (.pointer (some ⟨K, 0, none⟩))) (a.tmps.getD 66 undef) (a.tmps.getD 78 undef) w := hn 78 (by simp)
  exact op_field (x := .tmp 78) 7 (fld7 K) (opOf ho (by kernel_rfl)) h0 (hK _ _ (Below.refl _ _) (fun t ht => by rw [hd] at ht; injection ht with ht; subst ht; exact rfl))
theorem rob_20 : ROb lo K A0 Q 20 [79] := by
  intro o ho a w hlo hn Kk hK
  have hd : o.dst = some 80 := dstIs ho (by kernel_rfl)
  have h0 : KIs lo K A0 (.ex (.pointer (some ⟨K, 20, none⟩))) (a.tmps.getD 66 undef) (a.tmps.getD 79 undef) w := hn 79 (by simp)
  refine op_call (f := 46) (ts := #[105]) (args := #[.tmp 79]) (fun args w => by kernel_rfl) (opOf ho (by kernel_rfl)) (by simp [show a.eval (.tmp 79) = _ from h0]) (Time_mk (T := K) (o := 20)) ?_
  rintro e w' ⟨fv, rfl, b1, s1⟩
  exact ⟨_, rfl, hK _ _ b1 (fun t ht => by rw [hd] at ht; injection ht with ht; subst ht; exact ⟨TimeShape.isFunc s1, TimeShape.low s1 hlo⟩)⟩
theorem rob_21 : ROb lo K A0 Q 21 [80] := by
  intro o ho a w hlo hn Kk hK
  have hd : o.dst = some 81 := dstIs ho (by kernel_rfl)
  have h0 : KIs lo K A0 (.time) (a.tmps.getD 66 undef) (a.tmps.getD 80 undef) w := hn 80 (by simp)
  obtain ⟨⟨f0, c0, e0⟩, s0⟩ := h0
  rw [e0] at s0
  refine op_val (run_build1 a.eval (w := w) (x0 := .tmp 80) e0 (opOf ho (by kernel_rfl))) (hK _ _ (bl_alloc (Below.refl _ _) _) (fun t ht => ?_))
  rw [hd] at ht; injection ht with ht; subst ht
  exact ⟨_, One1.new hlo, s0.ck (CK.of_below (bl_alloc (Below.refl _ _) _))⟩
theorem rob_22 : ROb lo K A0 Q 22 [76, 81] := by
  intro o ho a w hlo hn Kk hK
  have hd : o.dst = some 82 := dstIs ho (by kernel_rfl)
  have h0 : KIs lo K A0 (.ex (.pointer (some ⟨K, 19, none⟩))) (a.tmps.getD 66 undef) (a.tmps.getD 76 undef) w := hn 76 (by simp)
  have h1 : KIs lo K A0 (.onesT) (a.tmps.getD 66 undef) (a.tmps.getD 81 undef) w := hn 81 (by simp)
  obtain ⟨tv, ⟨hp1, ⟨A1, n1, c1, e1⟩, hb3⟩, hs1⟩ := h1
  refine op_call (f := 45) (ts := #[103, 62]) (args := #[.tmp 76, .tmp 81]) (fun args w => by kernel_rfl) (opOf ho (by kernel_rfl)) (by simp [show a.eval (.tmp 76) = _ from h0, show a.eval (.tmp 81) = _ from e1]) (Option_mk (T := K) (o := 19) (A := A1) (n := n1) (c := c1)) ?_
  rintro e w' ⟨fv, rfl, b1, s1⟩
  rw [e1] at hp1 hb3
  exact ⟨_, rfl, hK _ _ b1 (fun t ht => by rw [hd] at ht; injection ht with ht; subst ht; exact ⟨OptionShape.isFunc s1, _, tv, OptionShape.low s1 hlo, One1.ck ⟨hp1, ⟨_, _, _, rfl⟩, hb3⟩ (CK.of_below b1), hs1.ck (CK.of_below b1)⟩)⟩
theorem rob_23 : ROb lo K A0 Q 23 [72, 73, 82] := by
  intro o ho a w hlo hn Kk hK
  have hd : o.dst = some 83 := dstIs ho (by kernel_rfl)
  have h0 : KIs lo K A0 (.part .h) (a.tmps.getD 66 undef) (a.tmps.getD 72 undef) w := hn 72 (by simp)
  have h1 : KIs lo K A0 (.part .set) (a.tmps.getD 66 undef) (a.tmps.getD 73 undef) w := hn 73 (by simp)
  have h2 : KIs lo K A0 (.part .guard) (a.tmps.getD 66 undef) (a.tmps.getD 82 undef) w := hn 82 (by simp)
  obtain ⟨⟨f0, c0, e0⟩, s0⟩ := h0
  obtain ⟨⟨f1, c1, e1⟩, s1⟩ := h1
  obtain ⟨⟨f2, c2, e2⟩, s2⟩ := h2
  rw [e0] at s0
  rw [e1] at s1
  rw [e2] at s2
  refine op_val (run_build3 a.eval (w := w) (x0 := .tmp 72) (x1 := .tmp 73) (x2 := .tmp 82) e0 e1 e2 (opOf ho (by kernel_rfl))) (hK _ _ (bl_alloc (Below.refl _ _) _) (fun t ht => ?_))
  rw [hd] at ht; injection ht with ht; subst ht
  refine RowIs.new (ps := [(.func (.func f0) #[] c0, .h), (.func (.func f1) #[] c1, .set), (.func (.func f2) #[] c2, .guard)]) (fun q hq => ?_) (Nat.le_of_ble_eq_true rfl) hlo
  simp only [List.mem_cons, List.not_mem_nil, or_false] at hq
  rcases hq with rfl | rfl | rfl
  · exact s0
  · exact s1
  · exact s2
theorem rob_24 : ∀ o, opsR[24]? = some o → 2 < 100 ∧ ∃ x, o.op = Op.insert 64 (.tmp 66) (.const (.int .u32 ((2 : Nat) : Int))) x ∧ ∀ (a : Act) (w : World), (∀ t ∈ ([83] : List Nat), KIs lo K A0 (kT K A0 t) (a.tmps.getD 66 undef) (a.tmps.getD t undef) w) → KIs lo K A0 (.row (rowsOf 2)) (a.tmps.getD 66 undef) (a.eval x) w := by
  intro o ho
  refine ⟨by decide, .tmp 83, opOf ho (by kernel_rfl), fun a w hn => ?_⟩
  have h0 : KIs lo K A0 (.row [.h, .set, .guard]) (a.tmps.getD 66 undef) (a.tmps.getD 83 undef) w := hn 83 (by simp)
  exact h0
theorem rob_25 : ROb lo K A0 Q 25 [14] := by
  intro o ho a w hlo hn Kk hK
  have hd : o.dst = some 84 := dstIs ho (by kernel_rfl)
  have h0 : KIs lo K A0 (.row [.h, .name]) (a.tmps.getD 66 undef) (a.tmps.getD 14 undef) w := hn 14 (by simp)
  exact op_move (x := .tmp 14) (opOf ho (by kernel_rfl)) rfl (hK _ _ (Below.refl _ _) (fun t ht => by rw [hd] at ht; injection ht with ht; subst ht; exact h0))
theorem rob_26 : ∀ o, opsR[26]? = some o → 3 < 100 ∧ ∃ x, o.op = Op.insert 64 (.tmp 66) (.const (.int .u32 ((3 : Nat) : Int))) x ∧ ∀ (a : Act) (w : World), (∀ t ∈ ([84] : List Nat), KIs lo K A0 (kT K A0 t) (a.tmps.getD 66 undef) (a.tmps.getD t undef) w) → KIs lo K A0 (.row (rowsOf 3)) (a.tmps.getD 66 undef) (a.eval x) w := by
  intro o ho
  refine ⟨by decide, .tmp 84, opOf ho (by kernel_rfl), fun a w hn => ?_⟩
  have h0 : KIs lo K A0 (.row [.h, .name]) (a.tmps.getD 66 undef) (a.tmps.getD 84 undef) w := hn 84 (by simp)
  exact h0
theorem rob_27 : ROb lo K A0 Q 27 [14] := by
  intro o ho a w hlo hn Kk hK
  have hd : o.dst = some 85 := dstIs ho (by kernel_rfl)
  have h0 : KIs lo K A0 (.row [.h, .name]) (a.tmps.getD 66 undef) (a.tmps.getD 14 undef) w := hn 14 (by simp)
  exact op_move (x := .tmp 14) (opOf ho (by kernel_rfl)) rfl (hK _ _ (Below.refl _ _) (fun t ht => by rw [hd] at ht; injection ht with ht; subst ht; exact h0))
theorem rob_28 : ∀ o, opsR[28]? = some o → 12 < 100 ∧ ∃ x, o.op = Op.insert 64 (.tmp 66) (.const (.int .u32 ((12 : Nat) : Int))) x ∧ ∀ (a : Act) (w : World), (∀ t ∈ ([85] : List Nat), KIs lo K A0 (kT K A0 t) (a.tmps.getD 66 undef) (a.tmps.getD t undef) w) → KIs lo K A0 (.row (rowsOf 12)) (a.tmps.getD 66 undef) (a.eval x) w := by
  intro o ho
  refine ⟨by decide, .tmp 85, opOf ho (by kernel_rfl), fun a w hn => ?_⟩
  have h0 : KIs lo K A0 (.row [.h, .name]) (a.tmps.getD 66 undef) (a.tmps.getD 85 undef) w := hn 85 (by simp)
  exact h0
theorem rob_29 : ROb lo K A0 Q 29 [14] := by
  intro o ho a w hlo hn Kk hK
  have hd : o.dst = some 86 := dstIs ho (by kernel_rfl)
  have h0 : KIs lo K A0 (.row [.h, .name]) (a.tmps.getD 66 undef) (a.tmps.getD 14 undef) w := hn 14 (by simp)
  exact op_move (x := .tmp 14) (opOf ho (by kernel_rfl)) rfl (hK _ _ (Below.refl _ _) (fun t ht => by rw [hd] at ht; injection ht with ht; subst ht; exact h0))
theorem rob_30 : ∀ o, opsR[30]? = some o → 13 < 100 ∧ ∃ x, o.op = Op.insert 64 (.tmp 66) (.const (.int .u32 ((13 : Nat) : Int))) x ∧ ∀ (a : Act) (w : World), (∀ t ∈ ([86] : List Nat), KIs lo K A0 (kT K A0 t) (a.tmps.getD 66 undef) (a.tmps.getD t undef) w) → KIs lo K A0 (.row (rowsOf 13)) (a.tmps.getD 66 undef) (a.eval x) w := by
  intro o ho
  refine ⟨by decide, .tmp 86, opOf ho (by kernel_rfl), fun a w hn => ?_⟩
  have h0 : KIs lo K A0 (.row [.h, .name]) (a.tmps.getD 66 undef) (a.tmps.getD 86 undef) w := hn 86 (by simp)
  exact h0
theorem rob_31 : ROb lo K A0 Q 31 [3] := by
  intro o ho a w hlo hn Kk hK
  have hd : o.dst = some 87 := dstIs ho (by kernel_rfl)
  have h0 : KIs lo K A0 (.part .h) (a.tmps.getD 66 undef) (a.tmps.getD 3 undef) w := hn 3 (by simp)
  exact op_move (x := .tmp 3) (opOf ho (by kernel_rfl)) rfl (hK _ _ (Below.refl _ _) (fun t ht => by rw [hd] at ht; injection ht with ht; subst ht; exact h0))
theorem rob_32 : ROb lo K A0 Q 32 [1] := by
  intro o ho a w hlo hn Kk hK
  have hd : o.dst = some 88 := dstIs ho (by kernel_rfl)
  have h0 : KIs lo K A0 (.a0) (a.tmps.getD 66 undef) (a.tmps.getD 1 undef) w := hn 1 (by simp)
  exact op_load (x := .tmp 1) agg_ptrArgs (opOf ho (by kernel_rfl)) h0.1 h0.2.2.2 (hK _ _ (Below.refl _ _) (fun t ht => by rw [hd] at ht; injection ht with ht; subst ht; exact rfl))
theorem rob_33 : ROb lo K A0 Q 33 [88] := by
  intro o ho a w hlo hn Kk hK
  have hd : o.dst = some 89 := dstIs ho (by kernel_rfl)
  have h0 : KIs lo K A0 (.ex (.pointer (some ⟨K, 0, none⟩))) (a.tmps.getD 66 undef) (a.tmps.getD 88 undef) w := hn 88 (by simp)
  exact op_nil (x := .tmp 88) (opOf ho (by kernel_rfl)) h0 (hK _ _ (Below.refl _ _) (fun t ht => by rw [hd] at ht; injection ht with ht; subst ht; exact rfl))
theorem rob_34 : ROb lo K A0 Q 34 [89] := by
  intro o ho a w hlo hn Kk hK
  have hd : o.dst = some 90 := dstIs ho (by kernel_rfl)
  have h0 : KIs lo K A0 (.ex (.pointer (some ⟨K, 0, none⟩))) (a.tmps.getD 66 undef) (a.tmps.getD 89 undef) w := hn 89 (by simp)
  exact op_field (x := .tmp 89) 8 (fld8 K) (opOf ho (by kernel_rfl)) h0 (hK _ _ (Below.refl _ _) (fun t ht => by rw [hd] at ht; injection ht with ht; subst ht; exact rfl))
theorem rob_35 : ROb lo K A0 Q 35 [90] := by
  intro o ho a w hlo hn Kk hK
  have hd : o.dst = some 91 := dstIs ho (by kernel_rfl)
  have h0 : KIs lo K A0 (.ex (.pointer (some ⟨K, 22, none⟩))) (a.tmps.getD 66 undef) (a.tmps.getD 90 undef) w := hn 90 (by simp)
  refine op_call (f := 41) (ts := #[97]) (args := #[.tmp 90]) (fun args w => by kernel_rfl) (opOf ho (by kernel_rfl)) (by simp [show a.eval (.tmp 90) = _ from h0]) (Number_mk (T := K) (o := 22)) ?_
  rintro e w' ⟨fv, rfl, b1, s1⟩
  exact ⟨_, rfl, hK _ _ b1 (fun t ht => by rw [hd] at ht; injection ht with ht; subst ht; exact ⟨ShortShape.isFunc s1, ShortShape.low s1 hlo⟩)⟩
theorem rob_36 : ROb lo K A0 Q 36 [87, 91] := by
  intro o ho a w hlo hn Kk hK
  have hd : o.dst = some 92 := dstIs ho (by kernel_rfl)
  have h0 : KIs lo K A0 (.part .h) (a.tmps.getD 66 undef) (a.tmps.getD 87 undef) w := hn 87 (by simp)
  have h1 : KIs lo K A0 (.part .bits) (a.tmps.getD 66 undef) (a.tmps.getD 91 undef) w := hn 91 (by simp)
  obtain ⟨⟨f0, c0, e0⟩, s0⟩ := h0
  obtain ⟨⟨f1, c1, e1⟩, s1⟩ := h1
  rw [e0] at s0
  rw [e1] at s1
  refine op_val (run_build2 a.eval (w := w) (x0 := .tmp 87) (x1 := .tmp 91) e0 e1 (opOf ho (by kernel_rfl))) (hK _ _ (bl_alloc (Below.refl _ _) _) (fun t ht => ?_))
  rw [hd] at ht; injection ht with ht; subst ht
  refine RowIs.new (ps := [(.func (.func f0) #[] c0, .h), (.func (.func f1) #[] c1, .bits)]) (fun q hq => ?_) (Nat.le_of_ble_eq_true rfl) hlo
  simp only [List.mem_cons, List.not_mem_nil, or_false] at hq
  rcases hq with rfl | rfl
  · exact s0
  · exact s1
theorem rob_37 : ∀ o, opsR[37]? = some o → 4 < 100 ∧ ∃ x, o.op = Op.insert 64 (.tmp 66) (.const (.int .u32 ((4 : Nat) : Int))) x ∧ ∀ (a : Act) (w : World), (∀ t ∈ ([92] : List Nat), KIs lo K A0 (kT K A0 t) (a.tmps.getD 66 undef) (a.tmps.getD t undef) w) → KIs lo K A0 (.row (rowsOf 4)) (a.tmps.getD 66 undef) (a.eval x) w := by
  intro o ho
  refine ⟨by decide, .tmp 92, opOf ho (by kernel_rfl), fun a w hn => ?_⟩
  have h0 : KIs lo K A0 (.row [.h, .bits]) (a.tmps.getD 66 undef) (a.tmps.getD 92 undef) w := hn 92 (by simp)
  exact h0
theorem rob_38 : ROb lo K A0 Q 38 [3] := by
  intro o ho a w hlo hn Kk hK
  have hd : o.dst = some 93 := dstIs ho (by kernel_rfl)
  have h0 : KIs lo K A0 (.part .h) (a.tmps.getD 66 undef) (a.tmps.getD 3 undef) w := hn 3 (by simp)
  exact op_move (x := .tmp 3) (opOf ho (by kernel_rfl)) rfl (hK _ _ (Below.refl _ _) (fun t ht => by rw [hd] at ht; injection ht with ht; subst ht; exact h0))
theorem rob_39 : ROb lo K A0 Q 39 [9] := by
  intro o ho a w hlo hn Kk hK
  have hd : o.dst = some 94 := dstIs ho (by kernel_rfl)
  have h0 : KIs lo K A0 (.part .offset) (a.tmps.getD 66 undef) (a.tmps.getD 9 undef) w := hn 9 (by simp)
  exact op_move (x := .tmp 9) (opOf ho (by kernel_rfl)) rfl (hK _ _ (Below.refl _ _) (fun t ht => by rw [hd] at ht; injection ht with ht; subst ht; exact h0))
theorem rob_40 : ROb lo K A0 Q 40 [10] := by
  intro o ho a w hlo hn Kk hK
  have hd : o.dst = some 95 := dstIs ho (by kernel_rfl)
  have h0 : KIs lo K A0 (.part .count) (a.tmps.getD 66 undef) (a.tmps.getD 10 undef) w := hn 10 (by simp)
  exact op_move (x := .tmp 10) (opOf ho (by kernel_rfl)) rfl (hK _ _ (Below.refl _ _) (fun t ht => by rw [hd] at ht; injection ht with ht; subst ht; exact h0))
theorem rob_41 : ROb lo K A0 Q 41 [93, 94, 95] := by
  intro o ho a w hlo hn Kk hK
  have hd : o.dst = some 96 := dstIs ho (by kernel_rfl)
  have h0 : KIs lo K A0 (.part .h) (a.tmps.getD 66 undef) (a.tmps.getD 93 undef) w := hn 93 (by simp)
  have h1 : KIs lo K A0 (.part .offset) (a.tmps.getD 66 undef) (a.tmps.getD 94 undef) w := hn 94 (by simp)
  have h2 : KIs lo K A0 (.part .count) (a.tmps.getD 66 undef) (a.tmps.getD 95 undef) w := hn 95 (by simp)
  obtain ⟨⟨f0, c0, e0⟩, s0⟩ := h0
  obtain ⟨⟨f1, c1, e1⟩, s1⟩ := h1
  obtain ⟨⟨f2, c2, e2⟩, s2⟩ := h2
  rw [e0] at s0
  rw [e1] at s1
  rw [e2] at s2
  refine op_val (run_build3 a.eval (w := w) (x0 := .tmp 93) (x1 := .tmp 94) (x2 := .tmp 95) e0 e1 e2 (opOf ho (by kernel_rfl))) (hK _ _ (bl_alloc (Below.refl _ _) _) (fun t ht => ?_))
  rw [hd] at ht; injection ht with ht; subst ht
  refine RowIs.new (ps := [(.func (.func f0) #[] c0, .h), (.func (.func f1) #[] c1, .offset), (.func (.func f2) #[] c2, .count)]) (fun q hq => ?_) (Nat.le_of_ble_eq_true rfl) hlo
  simp only [List.mem_cons, List.not_mem_nil, or_false] at hq
  rcases hq with rfl | rfl | rfl
  · exact s0
  · exact s1
  · exact s2
theorem rob_42 : ∀ o, opsR[42]? = some o → 6 < 100 ∧ ∃ x, o.op = Op.insert 64 (.tmp 66) (.const (.int .u32 ((6 : Nat) : Int))) x ∧ ∀ (a : Act) (w : World), (∀ t ∈ ([96] : List Nat), KIs lo K A0 (kT K A0 t) (a.tmps.getD 66 undef) (a.tmps.getD t undef) w) → KIs lo K A0 (.row (rowsOf 6)) (a.tmps.getD 66 undef) (a.eval x) w := by
  intro o ho
  refine ⟨by decide, .tmp 96, opOf ho (by kernel_rfl), fun a w hn => ?_⟩
  have h0 : KIs lo K A0 (.row [.h, .offset, .count]) (a.tmps.getD 66 undef) (a.tmps.getD 96 undef) w := hn 96 (by simp)
  exact h0
theorem rob_43 : ROb lo K A0 Q 43 [3] := by
  intro o ho a w hlo hn Kk hK
  have hd : o.dst = some 97 := dstIs ho (by kernel_rfl)
  have h0 : KIs lo K A0 (.part .h) (a.tmps.getD 66 undef) (a.tmps.getD 3 undef) w := hn 3 (by simp)
  exact op_move (x := .tmp 3) (opOf ho (by kernel_rfl)) rfl (hK _ _ (Below.refl _ _) (fun t ht => by rw [hd] at ht; injection ht with ht; subst ht; exact h0))
theorem rob_44 : ROb lo K A0 Q 44 [9] := by
  intro o ho a w hlo hn Kk hK
  have hd : o.dst = some 98 := dstIs ho (by kernel_rfl)
  have h0 : KIs lo K A0 (.part .offset) (a.tmps.getD 66 undef) (a.tmps.getD 9 undef) w := hn 9 (by simp)
  exact op_move (x := .tmp 9) (opOf ho (by kernel_rfl)) rfl (hK _ _ (Below.refl _ _) (fun t ht => by rw [hd] at ht; injection ht with ht; subst ht; exact h0))
theorem rob_45 : ROb lo K A0 Q 45 [10] := by
  intro o ho a w hlo hn Kk hK
  have hd : o.dst = some 99 := dstIs ho (by kernel_rfl)
  have h0 : KIs lo K A0 (.part .count) (a.tmps.getD 66 undef) (a.tmps.getD 10 undef) w := hn 10 (by simp)
  exact op_move (x := .tmp 10) (opOf ho (by kernel_rfl)) rfl (hK _ _ (Below.refl _ _) (fun t ht => by rw [hd] at ht; injection ht with ht; subst ht; exact h0))
theorem rob_46 : ROb lo K A0 Q 46 [97, 98, 99] := by
  intro o ho a w hlo hn Kk hK
  have hd : o.dst = some 100 := dstIs ho (by kernel_rfl)
  have h0 : KIs lo K A0 (.part .h) (a.tmps.getD 66 undef) (a.tmps.getD 97 undef) w := hn 97 (by simp)
  have h1 : KIs lo K A0 (.part .offset) (a.tmps.getD 66 undef) (a.tmps.getD 98 undef) w := hn 98 (by simp)
  have h2 : KIs lo K A0 (.part .count) (a.tmps.getD 66 undef) (a.tmps.getD 99 undef) w := hn 99 (by simp)
  obtain ⟨⟨f0, c0, e0⟩, s0⟩ := h0
  obtain ⟨⟨f1, c1, e1⟩, s1⟩ := h1
  obtain ⟨⟨f2, c2, e2⟩, s2⟩ := h2
  rw [e0] at s0
  rw [e1] at s1
  rw [e2] at s2
  refine op_val (run_build3 a.eval (w := w) (x0 := .tmp 97) (x1 := .tmp 98) (x2 := .tmp 99) e0 e1 e2 (opOf ho (by kernel_rfl))) (hK _ _ (bl_alloc (Below.refl _ _) _) (fun t ht => ?_))
  rw [hd] at ht; injection ht with ht; subst ht
  refine RowIs.new (ps := [(.func (.func f0) #[] c0, .h), (.func (.func f1) #[] c1, .offset), (.func (.func f2) #[] c2, .count)]) (fun q hq => ?_) (Nat.le_of_ble_eq_true rfl) hlo
  simp only [List.mem_cons, List.not_mem_nil, or_false] at hq
  rcases hq with rfl | rfl | rfl
  · exact s0
  · exact s1
  · exact s2
theorem rob_47 : ∀ o, opsR[47]? = some o → 21 < 100 ∧ ∃ x, o.op = Op.insert 64 (.tmp 66) (.const (.int .u32 ((21 : Nat) : Int))) x ∧ ∀ (a : Act) (w : World), (∀ t ∈ ([100] : List Nat), KIs lo K A0 (kT K A0 t) (a.tmps.getD 66 undef) (a.tmps.getD t undef) w) → KIs lo K A0 (.row (rowsOf 21)) (a.tmps.getD 66 undef) (a.eval x) w := by
  intro o ho
  refine ⟨by decide, .tmp 100, opOf ho (by kernel_rfl), fun a w hn => ?_⟩
  have h0 : KIs lo K A0 (.row [.h, .offset, .count]) (a.tmps.getD 66 undef) (a.tmps.getD 100 undef) w := hn 100 (by simp)
  exact h0
theorem rob_48 : ROb lo K A0 Q 48 [3] := by
  intro o ho a w hlo hn Kk hK
  have hd : o.dst = some 101 := dstIs ho (by kernel_rfl)
  have h0 : KIs lo K A0 (.part .h) (a.tmps.getD 66 undef) (a.tmps.getD 3 undef) w := hn 3 (by simp)
  exact op_move (x := .tmp 3) (opOf ho (by kernel_rfl)) rfl (hK _ _ (Below.refl _ _) (fun t ht => by rw [hd] at ht; injection ht with ht; subst ht; exact h0))
theorem rob_49 : ROb lo K A0 Q 49 [9] := by
  intro o ho a w hlo hn Kk hK
  have hd : o.dst = some 102 := dstIs ho (by kernel_rfl)
  have h0 : KIs lo K A0 (.part .offset) (a.tmps.getD 66 undef) (a.tmps.getD 9 undef) w := hn 9 (by simp)
  exact op_move (x := .tmp 9) (opOf ho (by kernel_rfl)) rfl (hK _ _ (Below.refl _ _) (fun t ht => by rw [hd] at ht; injection ht with ht; subst ht; exact h0))
theorem rob_50 : ROb lo K A0 Q 50 [10] := by
  intro o ho a w hlo hn Kk hK
  have hd : o.dst = some 103 := dstIs ho (by kernel_rfl)
  have h0 : KIs lo K A0 (.part .count) (a.tmps.getD 66 undef) (a.tmps.getD 10 undef) w := hn 10 (by simp)
  exact op_move (x := .tmp 10) (opOf ho (by kernel_rfl)) rfl (hK _ _ (Below.refl _ _) (fun t ht => by rw [hd] at ht; injection ht with ht; subst ht; exact h0))
theorem rob_51 : ROb lo K A0 Q 51 [1] := by
  intro o ho a w hlo hn Kk hK
  have hd : o.dst = some 104 := dstIs ho (by kernel_rfl)
  have h0 : KIs lo K A0 (.a0) (a.tmps.getD 66 undef) (a.tmps.getD 1 undef) w := hn 1 (by simp)
  exact op_load (x := .tmp 1) agg_ptrArgs (opOf ho (by kernel_rfl)) h0.1 h0.2.2.2 (hK _ _ (Below.refl _ _) (fun t ht => by rw [hd] at ht; injection ht with ht; subst ht; exact rfl))
theorem rob_52 : ROb lo K A0 Q 52 [104] := by
  intro o ho a w hlo hn Kk hK
  have hd : o.dst = some 105 := dstIs ho (by kernel_rfl)
  have h0 : KIs lo K A0 (.ex (.pointer (some ⟨K, 0, none⟩))) (a.tmps.getD 66 undef) (a.tmps.getD 104 undef) w := hn 104 (by simp)
  exact op_nil (x := .tmp 104) (opOf ho (by kernel_rfl)) h0 (hK _ _ (Below.refl _ _) (fun t ht => by rw [hd] at ht; injection ht with ht; subst ht; exact rfl))
theorem rob_53 : ROb lo K A0 Q 53 [105] := by
  intro o ho a w hlo hn Kk hK
  have hd : o.dst = some 106 := dstIs ho (by kernel_rfl)
  have h0 : KIs lo K A0 (.ex (.pointer (some ⟨K, 0, none⟩))) (a.tmps.getD 66 undef) (a.tmps.getD 105 undef) w := hn 105 (by simp)
  exact op_field (x := .tmp 105) 12 (fld12 K) (opOf ho (by kernel_rfl)) h0 (hK _ _ (Below.refl _ _) (fun t ht => by rw [hd] at ht; injection ht with ht; subst ht; exact rfl))
theorem rob_54 : ROb lo K A0 Q 54 [106] := by
  intro o ho a w hlo hn Kk hK
  have hd : o.dst = some 107 := dstIs ho (by kernel_rfl)
  have h0 : KIs lo K A0 (.ex (.pointer (some ⟨K, 26, none⟩))) (a.tmps.getD 66 undef) (a.tmps.getD 106 undef) w := hn 106 (by simp)
  refine op_call (f := 47) (ts := #[97, 22]) (args := #[.tmp 106, .const (.int .u32 2)]) (fun args w => by kernel_rfl) (opOf ho (by kernel_rfl)) (by simp [show a.eval (.tmp 106) = _ from h0, show ∀ v, a.eval (.const v) = v from fun _ => rfl]) (Small_mk (T := K) (o := 26) (most := 2)) ?_
  rintro e w' ⟨fv, rfl, b1, s1⟩
  exact ⟨_, rfl, hK _ _ b1 (fun t ht => by rw [hd] at ht; injection ht with ht; subst ht; exact ⟨SmallShape.isFunc s1, SmallShape.low s1 hlo⟩)⟩
theorem rob_55 : ROb lo K A0 Q 55 [1] := by
  intro o ho a w hlo hn Kk hK
  have hd : o.dst = some 108 := dstIs ho (by kernel_rfl)
  have h0 : KIs lo K A0 (.a0) (a.tmps.getD 66 undef) (a.tmps.getD 1 undef) w := hn 1 (by simp)
  exact op_load (x := .tmp 1) agg_ptrArgs (opOf ho (by kernel_rfl)) h0.1 h0.2.2.2 (hK _ _ (Below.refl _ _) (fun t ht => by rw [hd] at ht; injection ht with ht; subst ht; exact rfl))
theorem rob_56 : ROb lo K A0 Q 56 [108] := by
  intro o ho a w hlo hn Kk hK
  have hd : o.dst = some 109 := dstIs ho (by kernel_rfl)
  have h0 : KIs lo K A0 (.ex (.pointer (some ⟨K, 0, none⟩))) (a.tmps.getD 66 undef) (a.tmps.getD 108 undef) w := hn 108 (by simp)
  exact op_nil (x := .tmp 108) (opOf ho (by kernel_rfl)) h0 (hK _ _ (Below.refl _ _) (fun t ht => by rw [hd] at ht; injection ht with ht; subst ht; exact rfl))
theorem rob_57 : ROb lo K A0 Q 57 [109] := by
  intro o ho a w hlo hn Kk hK
  have hd : o.dst = some 110 := dstIs ho (by kernel_rfl)
  have h0 : KIs lo K A0 (.ex (.pointer (some ⟨K, 0, none⟩))) (a.tmps.getD 66 undef) (a.tmps.getD 109 undef) w := hn 109 (by simp)
  exact op_field (x := .tmp 109) 13 (fld13 K) (opOf ho (by kernel_rfl)) h0 (hK _ _ (Below.refl _ _) (fun t ht => by rw [hd] at ht; injection ht with ht; subst ht; exact rfl))
theorem rob_58 : ROb lo K A0 Q 58 [110] := by
  intro o ho a w hlo hn Kk hK
  have hd : o.dst = some 111 := dstIs ho (by kernel_rfl)
  have h0 : KIs lo K A0 (.ex (.pointer (some ⟨K, 27, none⟩))) (a.tmps.getD 66 undef) (a.tmps.getD 110 undef) w := hn 110 (by simp)
  refine op_call (f := 37) (ts := #[89, 3]) (args := #[.tmp 110, .const (.int .i64 32768)]) (fun args w => by kernel_rfl) (opOf ho (by kernel_rfl)) (by simp [show a.eval (.tmp 110) = _ from h0, show ∀ v, a.eval (.const v) = v from fun _ => rfl]) (Bytes_mk (T := K) (o := 27) (most := 32768)) ?_
  rintro e w' ⟨fv, rfl, b1, s1⟩
  exact ⟨_, rfl, hK _ _ b1 (fun t ht => by rw [hd] at ht; injection ht with ht; subst ht; exact ⟨BytesShape.isFunc s1, BytesShape.low s1 hlo⟩)⟩
theorem rob_59 : ROb lo K A0 Q 59 [101, 102, 103, 107, 111] := by
  intro o ho a w hlo hn Kk hK
  have hd : o.dst = some 112 := dstIs ho (by kernel_rfl)
  have h0 : KIs lo K A0 (.part .h) (a.tmps.getD 66 undef) (a.tmps.getD 101 undef) w := hn 101 (by simp)
  have h1 : KIs lo K A0 (.part .offset) (a.tmps.getD 66 undef) (a.tmps.getD 102 undef) w := hn 102 (by simp)
  have h2 : KIs lo K A0 (.part .count) (a.tmps.getD 66 undef) (a.tmps.getD 103 undef) w := hn 103 (by simp)
  have h3 : KIs lo K A0 (.part .stable) (a.tmps.getD 66 undef) (a.tmps.getD 107 undef) w := hn 107 (by simp)
  have h4 : KIs lo K A0 (.part .data) (a.tmps.getD 66 undef) (a.tmps.getD 111 undef) w := hn 111 (by simp)
  obtain ⟨⟨f0, c0, e0⟩, s0⟩ := h0
  obtain ⟨⟨f1, c1, e1⟩, s1⟩ := h1
  obtain ⟨⟨f2, c2, e2⟩, s2⟩ := h2
  obtain ⟨⟨f3, c3, e3⟩, s3⟩ := h3
  obtain ⟨⟨f4, c4, e4⟩, s4⟩ := h4
  rw [e0] at s0
  rw [e1] at s1
  rw [e2] at s2
  rw [e3] at s3
  rw [e4] at s4
  refine op_val (run_build5 a.eval (w := w) (x0 := .tmp 101) (x1 := .tmp 102) (x2 := .tmp 103) (x3 := .tmp 107) (x4 := .tmp 111) e0 e1 e2 e3 e4 (opOf ho (by kernel_rfl))) (hK _ _ (bl_alloc (Below.refl _ _) _) (fun t ht => ?_))
  rw [hd] at ht; injection ht with ht; subst ht
  refine RowIs.new (ps := [(.func (.func f0) #[] c0, .h), (.func (.func f1) #[] c1, .offset), (.func (.func f2) #[] c2, .count), (.func (.func f3) #[] c3, .stable), (.func (.func f4) #[] c4, .data)]) (fun q hq => ?_) (Nat.le_of_ble_eq_true rfl) hlo
  simp only [List.mem_cons, List.not_mem_nil, or_false] at hq
  rcases hq with rfl | rfl | rfl | rfl | rfl
  · exact s0
  · exact s1
  · exact s2
  · exact s3
  · exact s4
end
end Go.Proofs.YtgmhapjidbdhnaaGreat
namespace Go.Proofs.YtgmhapjidbdhnaaGreat
open Go.RowKit
section
variable {lo K A0 : Nat} {Q : Exit → Act → World → Prop}
theorem rob_60 : ∀ o, opsR[60]? = some o → 7 < 100 ∧ ∃ x, o.op = Op.insert 64 (.tmp 66) (.const (.int .u32 ((7 : Nat) : Int))) x ∧ ∀ (a : Act) (w : World), (∀ t ∈ ([112] : List Nat), KIs lo K A0 (kT K A0 t) (a.tmps.getD 66 undef) (a.tmps.getD t undef) w) → KIs lo K A0 (.row (rowsOf 7)) (a.tmps.getD 66 undef) (a.eval x) w := by
  intro o ho
  refine ⟨by decide, .tmp 112, opOf ho (by kernel_rfl), fun a w hn => ?_⟩
  have h0 : KIs lo K A0 (.row [.h, .offset, .count, .stable, .data]) (a.tmps.getD 66 undef) (a.tmps.getD 112 undef) w := hn 112 (by simp)
  exact h0
theorem rob_61 : ROb lo K A0 Q 61 [3] := by
  intro o ho a w hlo hn Kk hK
  have hd : o.dst = some 113 := dstIs ho (by kernel_rfl)
  have h0 : KIs lo K A0 (.part .h) (a.tmps.getD 66 undef) (a.tmps.getD 3 undef) w := hn 3 (by simp)
  exact op_move (x := .tmp 3) (opOf ho (by kernel_rfl)) rfl (hK _ _ (Below.refl _ _) (fun t ht => by rw [hd] at ht; injection ht with ht; subst ht; exact h0))
theorem rob_62 : ROb lo K A0 Q 62 [5] := by
  intro o ho a w hlo hn Kk hK
  have hd : o.dst = some 114 := dstIs ho (by kernel_rfl)
  have h0 : KIs lo K A0 (.part .name) (a.tmps.getD 66 undef) (a.tmps.getD 5 undef) w := hn 5 (by simp)
  exact op_move (x := .tmp 5) (opOf ho (by kernel_rfl)) rfl (hK _ _ (Below.refl _ _) (fun t ht => by rw [hd] at ht; injection ht with ht; subst ht; exact h0))
theorem rob_63 : ROb lo K A0 Q 63 [1] := by
  intro o ho a w hlo hn Kk hK
  have hd : o.dst = some 115 := dstIs ho (by kernel_rfl)
  have h0 : KIs lo K A0 (.a0) (a.tmps.getD 66 undef) (a.tmps.getD 1 undef) w := hn 1 (by simp)
  exact op_load (x := .tmp 1) agg_ptrArgs (opOf ho (by kernel_rfl)) h0.1 h0.2.2.2 (hK _ _ (Below.refl _ _) (fun t ht => by rw [hd] at ht; injection ht with ht; subst ht; exact rfl))
theorem rob_64 : ROb lo K A0 Q 64 [115] := by
  intro o ho a w hlo hn Kk hK
  have hd : o.dst = some 116 := dstIs ho (by kernel_rfl)
  have h0 : KIs lo K A0 (.ex (.pointer (some ⟨K, 0, none⟩))) (a.tmps.getD 66 undef) (a.tmps.getD 115 undef) w := hn 115 (by simp)
  exact op_nil (x := .tmp 115) (opOf ho (by kernel_rfl)) h0 (hK _ _ (Below.refl _ _) (fun t ht => by rw [hd] at ht; injection ht with ht; subst ht; exact rfl))
theorem rob_65 : ROb lo K A0 Q 65 [116] := by
  intro o ho a w hlo hn Kk hK
  have hd : o.dst = some 117 := dstIs ho (by kernel_rfl)
  have h0 : KIs lo K A0 (.ex (.pointer (some ⟨K, 0, none⟩))) (a.tmps.getD 66 undef) (a.tmps.getD 116 undef) w := hn 116 (by simp)
  exact op_field (x := .tmp 116) 15 (fld15 K) (opOf ho (by kernel_rfl)) h0 (hK _ _ (Below.refl _ _) (fun t ht => by rw [hd] at ht; injection ht with ht; subst ht; exact rfl))
theorem rob_66 : ROb lo K A0 Q 66 [117] := by
  intro o ho a w hlo hn Kk hK
  have hd : o.dst = some 118 := dstIs ho (by kernel_rfl)
  have h0 : KIs lo K A0 (.ex (.pointer (some ⟨K, 29, none⟩))) (a.tmps.getD 66 undef) (a.tmps.getD 117 undef) w := hn 117 (by simp)
  refine op_call (f := 47) (ts := #[97, 22]) (args := #[.tmp 117, .const (.int .u32 2)]) (fun args w => by kernel_rfl) (opOf ho (by kernel_rfl)) (by simp [show a.eval (.tmp 117) = _ from h0, show ∀ v, a.eval (.const v) = v from fun _ => rfl]) (Small_mk (T := K) (o := 29) (most := 2)) ?_
  rintro e w' ⟨fv, rfl, b1, s1⟩
  exact ⟨_, rfl, hK _ _ b1 (fun t ht => by rw [hd] at ht; injection ht with ht; subst ht; exact ⟨SmallShape.isFunc s1, SmallShape.low s1 hlo⟩)⟩
theorem rob_67 : ROb lo K A0 Q 67 [1] := by
  intro o ho a w hlo hn Kk hK
  have hd : o.dst = some 119 := dstIs ho (by kernel_rfl)
  have h0 : KIs lo K A0 (.a0) (a.tmps.getD 66 undef) (a.tmps.getD 1 undef) w := hn 1 (by simp)
  refine op_makeFunc1 (f := 49) (x := .tmp 1) (opOf ho (by kernel_rfl)) (hK _ _ (Below.refl _ _) (fun t ht => by rw [hd] at ht; injection ht with ht; subst ht; exact congrArg (fun v => Value.func (.func 49) #[] #[v]) h0.1))
theorem rob_68 : ROb lo K A0 Q 68 [11] := by
  intro o ho a w hlo hn Kk hK
  have hd : o.dst = some 120 := dstIs ho (by kernel_rfl)
  have h0 : KIs lo K A0 (.part .verf) (a.tmps.getD 66 undef) (a.tmps.getD 11 undef) w := hn 11 (by simp)
  exact op_move (x := .tmp 11) (opOf ho (by kernel_rfl)) rfl (hK _ _ (Below.refl _ _) (fun t ht => by rw [hd] at ht; injection ht with ht; subst ht; exact h0))
theorem rob_69 : ROb lo K A0 Q 69 [120] := by
  intro o ho a w hlo hn Kk hK
  have hd : o.dst = some 121 := dstIs ho (by kernel_rfl)
  have h0 : KIs lo K A0 (.part .verf) (a.tmps.getD 66 undef) (a.tmps.getD 120 undef) w := hn 120 (by simp)
  obtain ⟨⟨f0, c0, e0⟩, s0⟩ := h0
  rw [e0] at s0
  refine op_val (run_build1 a.eval (w := w) (x0 := .tmp 120) e0 (opOf ho (by kernel_rfl))) (hK _ _ (bl_alloc (Below.refl _ _) _) (fun t ht => ?_))
  rw [hd] at ht; injection ht with ht; subst ht
  exact ⟨_, One1.new hlo, PkShape.ck s0 (CK.of_below (bl_alloc (Below.refl _ _) _))⟩
theorem rob_70 : ROb lo K A0 Q 70 [119, 121, 1] := by
  intro o ho a w hlo hn Kk hK
  have hd : o.dst = some 122 := dstIs ho (by kernel_rfl)
  have h0 : KIs lo K A0 (.ex (.func (.func 49) #[] #[.pointer (some ⟨A0, 0, none⟩)])) (a.tmps.getD 66 undef) (a.tmps.getD 119 undef) w := hn 119 (by simp)
  have h1 : KIs lo K A0 (.ones .verf) (a.tmps.getD 66 undef) (a.tmps.getD 121 undef) w := hn 121 (by simp)
  have h2 : KIs lo K A0 (.a0) (a.tmps.getD 66 undef) (a.tmps.getD 1 undef) w := hn 1 (by simp)
  obtain ⟨tv, ⟨hp1, ⟨A1, n1, c1, e1⟩, hb3⟩, hs1⟩ := h1
  have e0 := h0
  refine op_call (f := 48) (ts := #[35, 62]) (args := #[.tmp 119, .tmp 121]) (fun args w => by kernel_rfl) (opOf ho (by kernel_rfl)) (by simp [show a.eval (.tmp 119) = _ from e0, show a.eval (.tmp 121) = _ from e1]) (If_mk (jf := 49) (jc := #[.pointer (some ⟨A0, 0, none⟩)]) (A := A1) (n := n1) (c := c1)) ?_
  rintro e w' ⟨fv, rfl, b1, s1⟩
  rw [e1] at hp1 hb3
  exact ⟨_, rfl, hK _ _ b1 (fun t ht => by rw [hd] at ht; injection ht with ht; subst ht; exact ⟨IfShape.isFunc s1, _, tv, A0, IfShape.low s1 hlo, h2.2.ck (CK.of_below b1), One1.ck ⟨hp1, ⟨_, _, _, rfl⟩, hb3⟩ (CK.of_below b1), PkShape.ck hs1 (CK.of_below b1)⟩)⟩
theorem rob_71 : ROb lo K A0 Q 71 [1] := by
  intro o ho a w hlo hn Kk hK
  have hd : o.dst = some 123 := dstIs ho (by kernel_rfl)
  have h0 : KIs lo K A0 (.a0) (a.tmps.getD 66 undef) (a.tmps.getD 1 undef) w := hn 1 (by simp)
  refine op_makeFunc1 (f := 50) (x := .tmp 1) (opOf ho (by kernel_rfl)) (hK _ _ (Below.refl _ _) (fun t ht => by rw [hd] at ht; injection ht with ht; subst ht; exact congrArg (fun v => Value.func (.func 50) #[] #[v]) h0.1))
theorem rob_72 : ROb lo K A0 Q 72 [8] := by
  intro o ho a w hlo hn Kk hK
  have hd : o.dst = some 124 := dstIs ho (by kernel_rfl)
  have h0 : KIs lo K A0 (.part .set) (a.tmps.getD 66 undef) (a.tmps.getD 8 undef) w := hn 8 (by simp)
  exact op_move (x := .tmp 8) (opOf ho (by kernel_rfl)) rfl (hK _ _ (Below.refl _ _) (fun t ht => by rw [hd] at ht; injection ht with ht; subst ht; exact h0))
theorem rob_73 : ROb lo K A0 Q 73 [124] := by
  intro o ho a w hlo hn Kk hK
  have hd : o.dst = some 125 := dstIs ho (by kernel_rfl)
  have h0 : KIs lo K A0 (.part .set) (a.tmps.getD 66 undef) (a.tmps.getD 124 undef) w := hn 124 (by simp)
  obtain ⟨⟨f0, c0, e0⟩, s0⟩ := h0
  rw [e0] at s0
  refine op_val (run_build1 a.eval (w := w) (x0 := .tmp 124) e0 (opOf ho (by kernel_rfl))) (hK _ _ (bl_alloc (Below.refl _ _) _) (fun t ht => ?_))
  rw [hd] at ht; injection ht with ht; subst ht
  exact ⟨_, One1.new hlo, PkShape.ck s0 (CK.of_below (bl_alloc (Below.refl _ _) _))⟩
theorem rob_74 : ROb lo K A0 Q 74 [123, 125, 1] := by
  intro o ho a w hlo hn Kk hK
  have hd : o.dst = some 126 := dstIs ho (by kernel_rfl)
  have h0 : KIs lo K A0 (.ex (.func (.func 50) #[] #[.pointer (some ⟨A0, 0, none⟩)])) (a.tmps.getD 66 undef) (a.tmps.getD 123 undef) w := hn 123 (by simp)
  have h1 : KIs lo K A0 (.ones .set) (a.tmps.getD 66 undef) (a.tmps.getD 125 undef) w := hn 125 (by simp)
  have h2 : KIs lo K A0 (.a0) (a.tmps.getD 66 undef) (a.tmps.getD 1 undef) w := hn 1 (by simp)
  obtain ⟨tv, ⟨hp1, ⟨A1, n1, c1, e1⟩, hb3⟩, hs1⟩ := h1
  have e0 := h0
  refine op_call (f := 48) (ts := #[35, 62]) (args := #[.tmp 123, .tmp 125]) (fun args w => by kernel_rfl) (opOf ho (by kernel_rfl)) (by simp [show a.eval (.tmp 123) = _ from e0, show a.eval (.tmp 125) = _ from e1]) (If_mk (jf := 50) (jc := #[.pointer (some ⟨A0, 0, none⟩)]) (A := A1) (n := n1) (c := c1)) ?_
  rintro e w' ⟨fv, rfl, b1, s1⟩
  rw [e1] at hp1 hb3
  exact ⟨_, rfl, hK _ _ b1 (fun t ht => by rw [hd] at ht; injection ht with ht; subst ht; exact ⟨IfShape.isFunc s1, _, tv, A0, IfShape.low s1 hlo, h2.2.ck (CK.of_below b1), One1.ck ⟨hp1, ⟨_, _, _, rfl⟩, hb3⟩ (CK.of_below b1), PkShape.ck hs1 (CK.of_below b1)⟩)⟩
theorem rob_75 : ROb lo K A0 Q 75 [113, 114, 118, 122, 126] := by
  intro o ho a w hlo hn Kk hK
  have hd : o.dst = some 127 := dstIs ho (by kernel_rfl)
  have h0 : KIs lo K A0 (.part .h) (a.tmps.getD 66 undef) (a.tmps.getD 113 undef) w := hn 113 (by simp)
  have h1 : KIs lo K A0 (.part .name) (a.tmps.getD 66 undef) (a.tmps.getD 114 undef) w := hn 114 (by simp)
  have h2 : KIs lo K A0 (.part .how) (a.tmps.getD 66 undef) (a.tmps.getD 118 undef) w := hn 118 (by simp)
  have h3 : KIs lo K A0 (.part .howVerf) (a.tmps.getD 66 undef) (a.tmps.getD 122 undef) w := hn 122 (by simp)
  have h4 : KIs lo K A0 (.part .howSet) (a.tmps.getD 66 undef) (a.tmps.getD 126 undef) w := hn 126 (by simp)
  obtain ⟨⟨f0, c0, e0⟩, s0⟩ := h0
  obtain ⟨⟨f1, c1, e1⟩, s1⟩ := h1
  obtain ⟨⟨f2, c2, e2⟩, s2⟩ := h2
  obtain ⟨⟨f3, c3, e3⟩, s3⟩ := h3
  obtain ⟨⟨f4, c4, e4⟩, s4⟩ := h4
  rw [e0] at s0
  rw [e1] at s1
  rw [e2] at s2
  rw [e3] at s3
  rw [e4] at s4
  refine op_val (run_build5 a.eval (w := w) (x0 := .tmp 113) (x1 := .tmp 114) (x2 := .tmp 118) (x3 := .tmp 122) (x4 := .tmp 126) e0 e1 e2 e3 e4 (opOf ho (by kernel_rfl))) (hK _ _ (bl_alloc (Below.refl _ _) _) (fun t ht => ?_))
  rw [hd] at ht; injection ht with ht; subst ht
  refine RowIs.new (ps := [(.func (.func f0) #[] c0, .h), (.func (.func f1) #[] c1, .name), (.func (.func f2) #[] c2, .how), (.func (.func f3) #[] c3, .howVerf), (.func (.func f4) #[] c4, .howSet)]) (fun q hq => ?_) (Nat.le_of_ble_eq_true rfl) hlo
  simp only [List.mem_cons, List.not_mem_nil, or_false] at hq
  rcases hq with rfl | rfl | rfl | rfl | rfl
  · exact s0
  · exact s1
  · exact s2
  · exact s3
  · exact s4
theorem rob_76 : ∀ o, opsR[76]? = some o → 8 < 100 ∧ ∃ x, o.op = Op.insert 64 (.tmp 66) (.const (.int .u32 ((8 : Nat) : Int))) x ∧ ∀ (a : Act) (w : World), (∀ t ∈ ([127] : List Nat), KIs lo K A0 (kT K A0 t) (a.tmps.getD 66 undef) (a.tmps.getD t undef) w) → KIs lo K A0 (.row (rowsOf 8)) (a.tmps.getD 66 undef) (a.eval x) w := by
  intro o ho
  refine ⟨by decide, .tmp 127, opOf ho (by kernel_rfl), fun a w hn => ?_⟩
  have h0 : KIs lo K A0 (.row [.h, .name, .how, .howVerf, .howSet]) (a.tmps.getD 66 undef) (a.tmps.getD 127 undef) w := hn 127 (by simp)
  exact h0
theorem rob_77 : ROb lo K A0 Q 77 [3] := by
  intro o ho a w hlo hn Kk hK
  have hd : o.dst = some 128 := dstIs ho (by kernel_rfl)
  have h0 : KIs lo K A0 (.part .h) (a.tmps.getD 66 undef) (a.tmps.getD 3 undef) w := hn 3 (by simp)
  exact op_move (x := .tmp 3) (opOf ho (by kernel_rfl)) rfl (hK _ _ (Below.refl _ _) (fun t ht => by rw [hd] at ht; injection ht with ht; subst ht; exact h0))
theorem rob_78 : ROb lo K A0 Q 78 [5] := by
  intro o ho a w hlo hn Kk hK
  have hd : o.dst = some 129 := dstIs ho (by kernel_rfl)
  have h0 : KIs lo K A0 (.part .name) (a.tmps.getD 66 undef) (a.tmps.getD 5 undef) w := hn 5 (by simp)
  exact op_move (x := .tmp 5) (opOf ho (by kernel_rfl)) rfl (hK _ _ (Below.refl _ _) (fun t ht => by rw [hd] at ht; injection ht with ht; subst ht; exact h0))
theorem rob_79 : ROb lo K A0 Q 79 [8] := by
  intro o ho a w hlo hn Kk hK
  have hd : o.dst = some 130 := dstIs ho (by kernel_rfl)
  have h0 : KIs lo K A0 (.part .set) (a.tmps.getD 66 undef) (a.tmps.getD 8 undef) w := hn 8 (by simp)
  exact op_move (x := .tmp 8) (opOf ho (by kernel_rfl)) rfl (hK _ _ (Below.refl _ _) (fun t ht => by rw [hd] at ht; injection ht with ht; subst ht; exact h0))
theorem rob_80 : ROb lo K A0 Q 80 [128, 129, 130] := by
  intro o ho a w hlo hn Kk hK
  have hd : o.dst = some 131 := dstIs ho (by kernel_rfl)
  have h0 : KIs lo K A0 (.part .h) (a.tmps.getD 66 undef) (a.tmps.getD 128 undef) w := hn 128 (by simp)
  have h1 : KIs lo K A0 (.part .name) (a.tmps.getD 66 undef) (a.tmps.getD 129 undef) w := hn 129 (by simp)
  have h2 : KIs lo K A0 (.part .set) (a.tmps.getD 66 undef) (a.tmps.getD 130 undef) w := hn 130 (by simp)
  obtain ⟨⟨f0, c0, e0⟩, s0⟩ := h0
  obtain ⟨⟨f1, c1, e1⟩, s1⟩ := h1
  obtain ⟨⟨f2, c2, e2⟩, s2⟩ := h2
  rw [e0] at s0
  rw [e1] at s1
  rw [e2] at s2
  refine op_val (run_build3 a.eval (w := w) (x0 := .tmp 128) (x1 := .tmp 129) (x2 := .tmp 130) e0 e1 e2 (opOf ho (by kernel_rfl))) (hK _ _ (bl_alloc (Below.refl _ _) _) (fun t ht => ?_))
  rw [hd] at ht; injection ht with ht; subst ht
  refine RowIs.new (ps := [(.func (.func f0) #[] c0, .h), (.func (.func f1) #[] c1, .name), (.func (.func f2) #[] c2, .set)]) (fun q hq => ?_) (Nat.le_of_ble_eq_true rfl) hlo
  simp only [List.mem_cons, List.not_mem_nil, or_false] at hq
  rcases hq with rfl | rfl | rfl
  · exact s0
  · exact s1
  · exact s2
theorem rob_81 : ∀ o, opsR[81]? = some o → 9 < 100 ∧ ∃ x, o.op = Op.insert 64 (.tmp 66) (.const (.int .u32 ((9 : Nat) : Int))) x ∧ ∀ (a : Act) (w : World), (∀ t ∈ ([131] : List Nat), KIs lo K A0 (kT K A0 t) (a.tmps.getD 66 undef) (a.tmps.getD t undef) w) → KIs lo K A0 (.row (rowsOf 9)) (a.tmps.getD 66 undef) (a.eval x) w := by
  intro o ho
  refine ⟨by decide, .tmp 131, opOf ho (by kernel_rfl), fun a w hn => ?_⟩
  have h0 : KIs lo K A0 (.row [.h, .name, .set]) (a.tmps.getD 66 undef) (a.tmps.getD 131 undef) w := hn 131 (by simp)
  exact h0
theorem rob_82 : ROb lo K A0 Q 82 [3] := by
  intro o ho a w hlo hn Kk hK
  have hd : o.dst = some 132 := dstIs ho (by kernel_rfl)
  have h0 : KIs lo K A0 (.part .h) (a.tmps.getD 66 undef) (a.tmps.getD 3 undef) w := hn 3 (by simp)
  exact op_move (x := .tmp 3) (opOf ho (by kernel_rfl)) rfl (hK _ _ (Below.refl _ _) (fun t ht => by rw [hd] at ht; injection ht with ht; subst ht; exact h0))
theorem rob_83 : ROb lo K A0 Q 83 [5] := by
  intro o ho a w hlo hn Kk hK
  have hd : o.dst = some 133 := dstIs ho (by kernel_rfl)
  have h0 : KIs lo K A0 (.part .name) (a.tmps.getD 66 undef) (a.tmps.getD 5 undef) w := hn 5 (by simp)
  exact op_move (x := .tmp 5) (opOf ho (by kernel_rfl)) rfl (hK _ _ (Below.refl _ _) (fun t ht => by rw [hd] at ht; injection ht with ht; subst ht; exact h0))
theorem rob_84 : ROb lo K A0 Q 84 [8] := by
  intro o ho a w hlo hn Kk hK
  have hd : o.dst = some 134 := dstIs ho (by kernel_rfl)
  have h0 : KIs lo K A0 (.part .set) (a.tmps.getD 66 undef) (a.tmps.getD 8 undef) w := hn 8 (by simp)
  exact op_move (x := .tmp 8) (opOf ho (by kernel_rfl)) rfl (hK _ _ (Below.refl _ _) (fun t ht => by rw [hd] at ht; injection ht with ht; subst ht; exact h0))
theorem rob_85 : ROb lo K A0 Q 85 [7] := by
  intro o ho a w hlo hn Kk hK
  have hd : o.dst = some 135 := dstIs ho (by kernel_rfl)
  have h0 : KIs lo K A0 (.part .target) (a.tmps.getD 66 undef) (a.tmps.getD 7 undef) w := hn 7 (by simp)
  exact op_move (x := .tmp 7) (opOf ho (by kernel_rfl)) rfl (hK _ _ (Below.refl _ _) (fun t ht => by rw [hd] at ht; injection ht with ht; subst ht; exact h0))
theorem rob_86 : ROb lo K A0 Q 86 [132, 133, 134, 135] := by
  intro o ho a w hlo hn Kk hK
  have hd : o.dst = some 136 := dstIs ho (by kernel_rfl)
  have h0 : KIs lo K A0 (.part .h) (a.tmps.getD 66 undef) (a.tmps.getD 132 undef) w := hn 132 (by simp)
  have h1 : KIs lo K A0 (.part .name) (a.tmps.getD 66 undef) (a.tmps.getD 133 undef) w := hn 133 (by simp)
  have h2 : KIs lo K A0 (.part .set) (a.tmps.getD 66 undef) (a.tmps.getD 134 undef) w := hn 134 (by simp)
  have h3 : KIs lo K A0 (.part .target) (a.tmps.getD 66 undef) (a.tmps.getD 135 undef) w := hn 135 (by simp)
  obtain ⟨⟨f0, c0, e0⟩, s0⟩ := h0
  obtain ⟨⟨f1, c1, e1⟩, s1⟩ := h1
  obtain ⟨⟨f2, c2, e2⟩, s2⟩ := h2
  obtain ⟨⟨f3, c3, e3⟩, s3⟩ := h3
  rw [e0] at s0
  rw [e1] at s1
  rw [e2] at s2
  rw [e3] at s3
  refine op_val (run_build4 a.eval (w := w) (x0 := .tmp 132) (x1 := .tmp 133) (x2 := .tmp 134) (x3 := .tmp 135) e0 e1 e2 e3 (opOf ho (by kernel_rfl))) (hK _ _ (bl_alloc (Below.refl _ _) _) (fun t ht => ?_))
  rw [hd] at ht; injection ht with ht; subst ht
  refine RowIs.new (ps := [(.func (.func f0) #[] c0, .h), (.func (.func f1) #[] c1, .name), (.func (.func f2) #[] c2, .set), (.func (.func f3) #[] c3, .target)]) (fun q hq => ?_) (Nat.le_of_ble_eq_true rfl) hlo
  simp only [List.mem_cons, List.not_mem_nil, or_false] at hq
  rcases hq with rfl | rfl | rfl | rfl
  · exact s0
  · exact s1
  · exact s2
  · exact s3
theorem rob_87 : ∀ o, opsR[87]? = some o → 10 < 100 ∧ ∃ x, o.op = Op.insert 64 (.tmp 66) (.const (.int .u32 ((10 : Nat) : Int))) x ∧ ∀ (a : Act) (w : World), (∀ t ∈ ([136] : List Nat), KIs lo K A0 (kT K A0 t) (a.tmps.getD 66 undef) (a.tmps.getD t undef) w) → KIs lo K A0 (.row (rowsOf 10)) (a.tmps.getD 66 undef) (a.eval x) w := by
  intro o ho
  refine ⟨by decide, .tmp 136, opOf ho (by kernel_rfl), fun a w hn => ?_⟩
  have h0 : KIs lo K A0 (.row [.h, .name, .set, .target]) (a.tmps.getD 66 undef) (a.tmps.getD 136 undef) w := hn 136 (by simp)
  exact h0
theorem rob_88 : ROb lo K A0 Q 88 [3] := by
  intro o ho a w hlo hn Kk hK
  have hd : o.dst = some 137 := dstIs ho (by kernel_rfl)
  have h0 : KIs lo K A0 (.part .h) (a.tmps.getD 66 undef) (a.tmps.getD 3 undef) w := hn 3 (by simp)
  exact op_move (x := .tmp 3) (opOf ho (by kernel_rfl)) rfl (hK _ _ (Below.refl _ _) (fun t ht => by rw [hd] at ht; injection ht with ht; subst ht; exact h0))
theorem rob_89 : ROb lo K A0 Q 89 [5] := by
  intro o ho a w hlo hn Kk hK
  have hd : o.dst = some 138 := dstIs ho (by kernel_rfl)
  have h0 : KIs lo K A0 (.part .name) (a.tmps.getD 66 undef) (a.tmps.getD 5 undef) w := hn 5 (by simp)
  exact op_move (x := .tmp 5) (opOf ho (by kernel_rfl)) rfl (hK _ _ (Below.refl _ _) (fun t ht => by rw [hd] at ht; injection ht with ht; subst ht; exact h0))
theorem rob_90 : ROb lo K A0 Q 90 [1] := by
  intro o ho a w hlo hn Kk hK
  have hd : o.dst = some 139 := dstIs ho (by kernel_rfl)
  have h0 : KIs lo K A0 (.a0) (a.tmps.getD 66 undef) (a.tmps.getD 1 undef) w := hn 1 (by simp)
  exact op_load (x := .tmp 1) agg_ptrArgs (opOf ho (by kernel_rfl)) h0.1 h0.2.2.2 (hK _ _ (Below.refl _ _) (fun t ht => by rw [hd] at ht; injection ht with ht; subst ht; exact rfl))
theorem rob_91 : ROb lo K A0 Q 91 [139] := by
  intro o ho a w hlo hn Kk hK
  have hd : o.dst = some 140 := dstIs ho (by kernel_rfl)
  have h0 : KIs lo K A0 (.ex (.pointer (some ⟨K, 0, none⟩))) (a.tmps.getD 66 undef) (a.tmps.getD 139 undef) w := hn 139 (by simp)
  exact op_nil (x := .tmp 139) (opOf ho (by kernel_rfl)) h0 (hK _ _ (Below.refl _ _) (fun t ht => by rw [hd] at ht; injection ht with ht; subst ht; exact rfl))
theorem rob_92 : ROb lo K A0 Q 92 [140] := by
  intro o ho a w hlo hn Kk hK
  have hd : o.dst = some 141 := dstIs ho (by kernel_rfl)
  have h0 : KIs lo K A0 (.ex (.pointer (some ⟨K, 0, none⟩))) (a.tmps.getD 66 undef) (a.tmps.getD 140 undef) w := hn 140 (by simp)
  exact op_field (x := .tmp 140) 16 (fld16 K) (opOf ho (by kernel_rfl)) h0 (hK _ _ (Below.refl _ _) (fun t ht => by rw [hd] at ht; injection ht with ht; subst ht; exact rfl))
theorem rob_93 : ROb lo K A0 Q 93 [141] := by
  intro o ho a w hlo hn Kk hK
  have hd : o.dst = some 142 := dstIs ho (by kernel_rfl)
  have h0 : KIs lo K A0 (.ex (.pointer (some ⟨K, 30, none⟩))) (a.tmps.getD 66 undef) (a.tmps.getD 141 undef) w := hn 141 (by simp)
  refine op_call (f := 41) (ts := #[97]) (args := #[.tmp 141]) (fun args w => by kernel_rfl) (opOf ho (by kernel_rfl)) (by simp [show a.eval (.tmp 141) = _ from h0]) (Number_mk (T := K) (o := 30)) ?_
  rintro e w' ⟨fv, rfl, b1, s1⟩
  exact ⟨_, rfl, hK _ _ b1 (fun t ht => by rw [hd] at ht; injection ht with ht; subst ht; exact ⟨ShortShape.isFunc s1, ShortShape.low s1 hlo⟩)⟩
theorem rob_94 : ROb lo K A0 Q 94 [12] := by
  intro o ho a w hlo hn Kk hK
  have hd : o.dst = some 143 := dstIs ho (by kernel_rfl)
  have h0 : KIs lo K A0 (.ex (.func (.func 43) #[] #[.pointer (some ⟨A0, 0, none⟩)])) (a.tmps.getD 66 undef) (a.tmps.getD 12 undef) w := hn 12 (by simp)
  exact op_move (x := .tmp 12) (opOf ho (by kernel_rfl)) rfl (hK _ _ (Below.refl _ _) (fun t ht => by rw [hd] at ht; injection ht with ht; subst ht; exact h0))
theorem rob_95 : ROb lo K A0 Q 95 [] := by
  intro o ho a w hlo hn Kk hK
  have hd : o.dst = some 144 := dstIs ho (by kernel_rfl)
  refine op_val (run_nums4 a.eval (w := w) (opOf ho (by kernel_rfl)) (fun _ => rfl)) (hK _ _ (bl_alloc (Below.refl _ _) _) (fun t ht => by rw [hd] at ht; injection ht with ht; subst ht; exact Nums.new (ns := [3, 4, 6, 7]) hlo))
theorem rob_96 : ROb lo K A0 Q 96 [143, 144, 1] := by
  intro o ho a w hlo hn Kk hK
  have hd : o.dst = some 145 := dstIs ho (by kernel_rfl)
  have h0 : KIs lo K A0 (.ex (.func (.func 43) #[] #[.pointer (some ⟨A0, 0, none⟩)])) (a.tmps.getD 66 undef) (a.tmps.getD 143 undef) w := hn 143 (by simp)
  have h1 : KIs lo K A0 (.nums [3, 4, 6, 7]) (a.tmps.getD 66 undef) (a.tmps.getD 144 undef) w := hn 144 (by simp)
  have h2 : KIs lo K A0 (.a0) (a.tmps.getD 66 undef) (a.tmps.getD 1 undef) w := hn 1 (by simp)
  refine op_callv (v := .tmp 143) (x := .tmp 144) (f := 43) (c := #[.pointer (some ⟨A0, 0, none⟩)]) (ts := #[100]) (fun args w => by kernel_rfl) (opOf ho (by kernel_rfl)) h0 (kind_mk (Nums.isSlice h1)) ?_
  rintro e w' ⟨fv, rfl, b1, L, rfl, hL⟩
  refine ⟨_, rfl, hK _ _ b1 (fun t ht => ?_)⟩
  rw [hd] at ht; injection ht with ht; subst ht
  exact ⟨L, _, rfl, h2.2.ck (CK.of_below b1), hL.low hlo, Nums.ck h1 (CK.of_below b1)⟩
theorem rob_97 : ROb lo K A0 Q 97 [8] := by
  intro o ho a w hlo hn Kk hK
  have hd : o.dst = some 146 := dstIs ho (by kernel_rfl)
  have h0 : KIs lo K A0 (.part .set) (a.tmps.getD 66 undef) (a.tmps.getD 8 undef) w := hn 8 (by simp)
  exact op_move (x := .tmp 8) (opOf ho (by kernel_rfl)) rfl (hK _ _ (Below.refl _ _) (fun t ht => by rw [hd] at ht; injection ht with ht; subst ht; exact h0))
theorem rob_98 : ROb lo K A0 Q 98 [146] := by
  intro o ho a w hlo hn Kk hK
  have hd : o.dst = some 147 := dstIs ho (by kernel_rfl)
  have h0 : KIs lo K A0 (.part .set) (a.tmps.getD 66 undef) (a.tmps.getD 146 undef) w := hn 146 (by simp)
  obtain ⟨⟨f0, c0, e0⟩, s0⟩ := h0
  rw [e0] at s0
  refine op_val (run_build1 a.eval (w := w) (x0 := .tmp 146) e0 (opOf ho (by kernel_rfl))) (hK _ _ (bl_alloc (Below.refl _ _) _) (fun t ht => ?_))
  rw [hd] at ht; injection ht with ht; subst ht
  exact ⟨_, One1.new hlo, PkShape.ck s0 (CK.of_below (bl_alloc (Below.refl _ _) _))⟩
theorem rob_99 : ROb lo K A0 Q 99 [145, 147, 1] := by
  intro o ho a w hlo hn Kk hK
  have hd : o.dst = some 148 := dstIs ho (by kernel_rfl)
  have h0 : KIs lo K A0 (.cond [3, 4, 6, 7]) (a.tmps.getD 66 undef) (a.tmps.getD 145 undef) w := hn 145 (by simp)
  have h1 : KIs lo K A0 (.ones .set) (a.tmps.getD 66 undef) (a.tmps.getD 147 undef) w := hn 147 (by simp)
  have h2 : KIs lo K A0 (.a0) (a.tmps.getD 66 undef) (a.tmps.getD 1 undef) w := hn 1 (by simp)
  obtain ⟨tv, ⟨hp1, ⟨A1, n1, c1, e1⟩, hb3⟩, hs1⟩ := h1
  obtain ⟨L, nv, e0, hA, hL, hN⟩ := h0
  refine op_call (f := 48) (ts := #[35, 62]) (args := #[.tmp 145, .tmp 147]) (fun args w => by kernel_rfl) (opOf ho (by kernel_rfl)) (by simp [show a.eval (.tmp 145) = _ from e0, show a.eval (.tmp 147) = _ from e1]) (If_mk (jf := 44) (jc := #[.pointer (some ⟨L, 0, none⟩), .pointer (some ⟨A0, 0, none⟩)]) (A := A1) (n := n1) (c := c1)) ?_
  rintro e w' ⟨fv, rfl, b1, s1⟩
  rw [e1] at hp1 hb3
  exact ⟨_, rfl, hK _ _ b1 (fun t ht => by rw [hd] at ht; injection ht with ht; subst ht; exact ⟨IfShape.isFunc s1, _, tv, A0, L, nv, IfShape.low s1 hlo, hA.ck (CK.of_below b1), hL.ck (CK.of_below b1), hN.ck (CK.of_below b1), One1.ck ⟨hp1, ⟨_, _, _, rfl⟩, hb3⟩ (CK.of_below b1), PkShape.ck hs1 (CK.of_below b1)⟩)⟩
theorem rob_100 : ROb lo K A0 Q 100 [12] := by
  intro o ho a w hlo hn Kk hK
  have hd : o.dst = some 149 := dstIs ho (by kernel_rfl)
  have h0 : KIs lo K A0 (.ex (.func (.func 43) #[] #[.pointer (some ⟨A0, 0, none⟩)])) (a.tmps.getD 66 undef) (a.tmps.getD 12 undef) w := hn 12 (by simp)
  exact op_move (x := .tmp 12) (opOf ho (by kernel_rfl)) rfl (hK _ _ (Below.refl _ _) (fun t ht => by rw [hd] at ht; injection ht with ht; subst ht; exact h0))
theorem rob_101 : ROb lo K A0 Q 101 [] := by
  intro o ho a w hlo hn Kk hK
  have hd : o.dst = some 150 := dstIs ho (by kernel_rfl)
  refine op_val (run_nums2 a.eval (w := w) (opOf ho (by kernel_rfl)) (fun _ => rfl)) (hK _ _ (bl_alloc (Below.refl _ _) _) (fun t ht => by rw [hd] at ht; injection ht with ht; subst ht; exact Nums.new (ns := [3, 4]) hlo))
theorem rob_102 : ROb lo K A0 Q 102 [149, 150, 1] := by
  intro o ho a w hlo hn Kk hK
  have hd : o.dst = some 151 := dstIs ho (by kernel_rfl)
  have h0 : KIs lo K A0 (.ex (.func (.func 43) #[] #[.pointer (some ⟨A0, 0, none⟩)])) (a.tmps.getD 66 undef) (a.tmps.getD 149 undef) w := hn 149 (by simp)
  have h1 : KIs lo K A0 (.nums [3, 4]) (a.tmps.getD 66 undef) (a.tmps.getD 150 undef) w := hn 150 (by simp)
  have h2 : KIs lo K A0 (.a0) (a.tmps.getD 66 undef) (a.tmps.getD 1 undef) w := hn 1 (by simp)
  refine op_callv (v := .tmp 149) (x := .tmp 150) (f := 43) (c := #[.pointer (some ⟨A0, 0, none⟩)]) (ts := #[100]) (fun args w => by kernel_rfl) (opOf ho (by kernel_rfl)) h0 (kind_mk (Nums.isSlice h1)) ?_
  rintro e w' ⟨fv, rfl, b1, L, rfl, hL⟩
  refine ⟨_, rfl, hK _ _ b1 (fun t ht => ?_)⟩
  rw [hd] at ht; injection ht with ht; subst ht
  exact ⟨L, _, rfl, h2.2.ck (CK.of_below b1), hL.low hlo, Nums.ck h1 (CK.of_below b1)⟩
theorem rob_103 : ROb lo K A0 Q 103 [9] := by
  intro o ho a w hlo hn Kk hK
  have hd : o.dst = some 152 := dstIs ho (by kernel_rfl)
  have h0 : KIs lo K A0 (.part .offset) (a.tmps.getD 66 undef) (a.tmps.getD 9 undef) w := hn 9 (by simp)
  exact op_move (x := .tmp 9) (opOf ho (by kernel_rfl)) rfl (hK _ _ (Below.refl _ _) (fun t ht => by rw [hd] at ht; injection ht with ht; subst ht; exact h0))
theorem rob_104 : ROb lo K A0 Q 104 [152] := by
  intro o ho a w hlo hn Kk hK
  have hd : o.dst = some 153 := dstIs ho (by kernel_rfl)
  have h0 : KIs lo K A0 (.part .offset) (a.tmps.getD 66 undef) (a.tmps.getD 152 undef) w := hn 152 (by simp)
  obtain ⟨⟨f0, c0, e0⟩, s0⟩ := h0
  rw [e0] at s0
  refine op_val (run_build1 a.eval (w := w) (x0 := .tmp 152) e0 (opOf ho (by kernel_rfl))) (hK _ _ (bl_alloc (Below.refl _ _) _) (fun t ht => ?_))
  rw [hd] at ht; injection ht with ht; subst ht
  exact ⟨_, One1.new hlo, PkShape.ck s0 (CK.of_below (bl_alloc (Below.refl _ _) _))⟩
theorem rob_105 : ROb lo K A0 Q 105 [151, 153, 1] := by
  intro o ho a w hlo hn Kk hK
  have hd : o.dst = some 154 := dstIs ho (by kernel_rfl)
  have h0 : KIs lo K A0 (.cond [3, 4]) (a.tmps.getD 66 undef) (a.tmps.getD 151 undef) w := hn 151 (by simp)
  have h1 : KIs lo K A0 (.ones .offset) (a.tmps.getD 66 undef) (a.tmps.getD 153 undef) w := hn 153 (by simp)
  have h2 : KIs lo K A0 (.a0) (a.tmps.getD 66 undef) (a.tmps.getD 1 undef) w := hn 1 (by simp)
  obtain ⟨tv, ⟨hp1, ⟨A1, n1, c1, e1⟩, hb3⟩, hs1⟩ := h1
  obtain ⟨L, nv, e0, hA, hL, hN⟩ := h0
  refine op_call (f := 48) (ts := #[35, 62]) (args := #[.tmp 151, .tmp 153]) (fun args w => by kernel_rfl) (opOf ho (by kernel_rfl)) (by simp [show a.eval (.tmp 151) = _ from e0, show a.eval (.tmp 153) = _ from e1]) (If_mk (jf := 44) (jc := #[.pointer (some ⟨L, 0, none⟩), .pointer (some ⟨A0, 0, none⟩)]) (A := A1) (n := n1) (c := c1)) ?_
  rintro e w' ⟨fv, rfl, b1, s1⟩
  rw [e1] at hp1 hb3
  exact ⟨_, rfl, hK _ _ b1 (fun t ht => by rw [hd] at ht; injection ht with ht; subst ht; exact ⟨IfShape.isFunc s1, _, tv, A0, L, nv, IfShape.low s1 hlo, hA.ck (CK.of_below b1), hL.ck (CK.of_below b1), hN.ck (CK.of_below b1), One1.ck ⟨hp1, ⟨_, _, _, rfl⟩, hb3⟩ (CK.of_below b1), PkShape.ck hs1 (CK.of_below b1)⟩)⟩
theorem rob_106 : ROb lo K A0 Q 106 [137, 138, 142, 148, 154] := by
  intro o ho a w hlo hn Kk hK
  have hd : o.dst = some 155 := dstIs ho (by kernel_rfl)
  have h0 : KIs lo K A0 (.part .h) (a.tmps.getD 66 undef) (a.tmps.getD 137 undef) w := hn 137 (by simp)
  have h1 : KIs lo K A0 (.part .name) (a.tmps.getD 66 undef) (a.tmps.getD 138 undef) w := hn 138 (by simp)
  have h2 : KIs lo K A0 (.part .kind) (a.tmps.getD 66 undef) (a.tmps.getD 142 undef) w := hn 142 (by simp)
  have h3 : KIs lo K A0 (.part .kindSet) (a.tmps.getD 66 undef) (a.tmps.getD 148 undef) w := hn 148 (by simp)
  have h4 : KIs lo K A0 (.part .kindOff) (a.tmps.getD 66 undef) (a.tmps.getD 154 undef) w := hn 154 (by simp)
  obtain ⟨⟨f0, c0, e0⟩, s0⟩ := h0
  obtain ⟨⟨f1, c1, e1⟩, s1⟩ := h1
  obtain ⟨⟨f2, c2, e2⟩, s2⟩ := h2
  obtain ⟨⟨f3, c3, e3⟩, s3⟩ := h3
  obtain ⟨⟨f4, c4, e4⟩, s4⟩ := h4
  rw [e0] at s0
  rw [e1] at s1
  rw [e2] at s2
  rw [e3] at s3
  rw [e4] at s4
  refine op_val (run_build5 a.eval (w := w) (x0 := .tmp 137) (x1 := .tmp 138) (x2 := .tmp 142) (x3 := .tmp 148) (x4 := .tmp 154) e0 e1 e2 e3 e4 (opOf ho (by kernel_rfl))) (hK _ _ (bl_alloc (Below.refl _ _) _) (fun t ht => ?_))
  rw [hd] at ht; injection ht with ht; subst ht
  refine RowIs.new (ps := [(.func (.func f0) #[] c0, .h), (.func (.func f1) #[] c1, .name), (.func (.func f2) #[] c2, .kind), (.func (.func f3) #[] c3, .kindSet), (.func (.func f4) #[] c4, .kindOff)]) (fun q hq => ?_) (Nat.le_of_ble_eq_true rfl) hlo
  simp only [List.mem_cons, List.not_mem_nil, or_false] at hq
  rcases hq with rfl | rfl | rfl | rfl | rfl
  · exact s0
  · exact s1
  · exact s2
  · exact s3
  · exact s4
theorem rob_107 : ∀ o, opsR[107]? = some o → 11 < 100 ∧ ∃ x, o.op = Op.insert 64 (.tmp 66) (.const (.int .u32 ((11 : Nat) : Int))) x ∧ ∀ (a : Act) (w : World), (∀ t ∈ ([155] : List Nat), KIs lo K A0 (kT K A0 t) (a.tmps.getD 66 undef) (a.tmps.getD t undef) w) → KIs lo K A0 (.row (rowsOf 11)) (a.tmps.getD 66 undef) (a.eval x) w := by
  intro o ho
  refine ⟨by decide, .tmp 155, opOf ho (by kernel_rfl), fun a w hn => ?_⟩
  have h0 : KIs lo K A0 (.row [.h, .name, .kind, .kindSet, .kindOff]) (a.tmps.getD 66 undef) (a.tmps.getD 155 undef) w := hn 155 (by simp)
  exact h0
theorem rob_108 : ROb lo K A0 Q 108 [3] := by
  intro o ho a w hlo hn Kk hK
  have hd : o.dst = some 156 := dstIs ho (by kernel_rfl)
  have h0 : KIs lo K A0 (.part .h) (a.tmps.getD 66 undef) (a.tmps.getD 3 undef) w := hn 3 (by simp)
  exact op_move (x := .tmp 3) (opOf ho (by kernel_rfl)) rfl (hK _ _ (Below.refl _ _) (fun t ht => by rw [hd] at ht; injection ht with ht; subst ht; exact h0))
theorem rob_109 : ROb lo K A0 Q 109 [5] := by
  intro o ho a w hlo hn Kk hK
  have hd : o.dst = some 157 := dstIs ho (by kernel_rfl)
  have h0 : KIs lo K A0 (.part .name) (a.tmps.getD 66 undef) (a.tmps.getD 5 undef) w := hn 5 (by simp)
  exact op_move (x := .tmp 5) (opOf ho (by kernel_rfl)) rfl (hK _ _ (Below.refl _ _) (fun t ht => by rw [hd] at ht; injection ht with ht; subst ht; exact h0))
theorem rob_110 : ROb lo K A0 Q 110 [4] := by
  intro o ho a w hlo hn Kk hK
  have hd : o.dst = some 158 := dstIs ho (by kernel_rfl)
  have h0 : KIs lo K A0 (.part .h2) (a.tmps.getD 66 undef) (a.tmps.getD 4 undef) w := hn 4 (by simp)
  exact op_move (x := .tmp 4) (opOf ho (by kernel_rfl)) rfl (hK _ _ (Below.refl _ _) (fun t ht => by rw [hd] at ht; injection ht with ht; subst ht; exact h0))
theorem rob_111 : ROb lo K A0 Q 111 [6] := by
  intro o ho a w hlo hn Kk hK
  have hd : o.dst = some 159 := dstIs ho (by kernel_rfl)
  have h0 : KIs lo K A0 (.part .name2) (a.tmps.getD 66 undef) (a.tmps.getD 6 undef) w := hn 6 (by simp)
  exact op_move (x := .tmp 6) (opOf ho (by kernel_rfl)) rfl (hK _ _ (Below.refl _ _) (fun t ht => by rw [hd] at ht; injection ht with ht; subst ht; exact h0))
theorem rob_112 : ROb lo K A0 Q 112 [156, 157, 158, 159] := by
  intro o ho a w hlo hn Kk hK
  have hd : o.dst = some 160 := dstIs ho (by kernel_rfl)
  have h0 : KIs lo K A0 (.part .h) (a.tmps.getD 66 undef) (a.tmps.getD 156 undef) w := hn 156 (by simp)
  have h1 : KIs lo K A0 (.part .name) (a.tmps.getD 66 undef) (a.tmps.getD 157 undef) w := hn 157 (by simp)
  have h2 : KIs lo K A0 (.part .h2) (a.tmps.getD 66 undef) (a.tmps.getD 158 undef) w := hn 158 (by simp)
  have h3 : KIs lo K A0 (.part .name2) (a.tmps.getD 66 undef) (a.tmps.getD 159 undef) w := hn 159 (by simp)
  obtain ⟨⟨f0, c0, e0⟩, s0⟩ := h0
  obtain ⟨⟨f1, c1, e1⟩, s1⟩ := h1
  obtain ⟨⟨f2, c2, e2⟩, s2⟩ := h2
  obtain ⟨⟨f3, c3, e3⟩, s3⟩ := h3
  rw [e0] at s0
  rw [e1] at s1
  rw [e2] at s2
  rw [e3] at s3
  refine op_val (run_build4 a.eval (w := w) (x0 := .tmp 156) (x1 := .tmp 157) (x2 := .tmp 158) (x3 := .tmp 159) e0 e1 e2 e3 (opOf ho (by kernel_rfl))) (hK _ _ (bl_alloc (Below.refl _ _) _) (fun t ht => ?_))
  rw [hd] at ht; injection ht with ht; subst ht
  refine RowIs.new (ps := [(.func (.func f0) #[] c0, .h), (.func (.func f1) #[] c1, .name), (.func (.func f2) #[] c2, .h2), (.func (.func f3) #[] c3, .name2)]) (fun q hq => ?_) (Nat.le_of_ble_eq_true rfl) hlo
  simp only [List.mem_cons, List.not_mem_nil, or_false] at hq
  rcases hq with rfl | rfl | rfl | rfl
  · exact s0
  · exact s1
  · exact s2
  · exact s3
theorem rob_113 : ∀ o, opsR[113]? = some o → 14 < 100 ∧ ∃ x, o.op = Op.insert 64 (.tmp 66) (.const (.int .u32 ((14 : Nat) : Int))) x ∧ ∀ (a : Act) (w : World), (∀ t ∈ ([160] : List Nat), KIs lo K A0 (kT K A0 t) (a.tmps.getD 66 undef) (a.tmps.getD t undef) w) → KIs lo K A0 (.row (rowsOf 14)) (a.tmps.getD 66 undef) (a.eval x) w := by
  intro o ho
  refine ⟨by decide, .tmp 160, opOf ho (by kernel_rfl), fun a w hn => ?_⟩
  have h0 : KIs lo K A0 (.row [.h, .name, .h2, .name2]) (a.tmps.getD 66 undef) (a.tmps.getD 160 undef) w := hn 160 (by simp)
  exact h0
theorem rob_114 : ROb lo K A0 Q 114 [3] := by
  intro o ho a w hlo hn Kk hK
  have hd : o.dst = some 161 := dstIs ho (by kernel_rfl)
  have h0 : KIs lo K A0 (.part .h) (a.tmps.getD 66 undef) (a.tmps.getD 3 undef) w := hn 3 (by simp)
  exact op_move (x := .tmp 3) (opOf ho (by kernel_rfl)) rfl (hK _ _ (Below.refl _ _) (fun t ht => by rw [hd] at ht; injection ht with ht; subst ht; exact h0))
theorem rob_115 : ROb lo K A0 Q 115 [4] := by
  intro o ho a w hlo hn Kk hK
  have hd : o.dst = some 162 := dstIs ho (by kernel_rfl)
  have h0 : KIs lo K A0 (.part .h2) (a.tmps.getD 66 undef) (a.tmps.getD 4 undef) w := hn 4 (by simp)
  exact op_move (x := .tmp 4) (opOf ho (by kernel_rfl)) rfl (hK _ _ (Below.refl _ _) (fun t ht => by rw [hd] at ht; injection ht with ht; subst ht; exact h0))
theorem rob_116 : ROb lo K A0 Q 116 [6] := by
  intro o ho a w hlo hn Kk hK
  have hd : o.dst = some 163 := dstIs ho (by kernel_rfl)
  have h0 : KIs lo K A0 (.part .name2) (a.tmps.getD 66 undef) (a.tmps.getD 6 undef) w := hn 6 (by simp)
  exact op_move (x := .tmp 6) (opOf ho (by kernel_rfl)) rfl (hK _ _ (Below.refl _ _) (fun t ht => by rw [hd] at ht; injection ht with ht; subst ht; exact h0))
theorem rob_117 : ROb lo K A0 Q 117 [161, 162, 163] := by
  intro o ho a w hlo hn Kk hK
  have hd : o.dst = some 164 := dstIs ho (by kernel_rfl)
  have h0 : KIs lo K A0 (.part .h) (a.tmps.getD 66 undef) (a.tmps.getD 161 undef) w := hn 161 (by simp)
  have h1 : KIs lo K A0 (.part .h2) (a.tmps.getD 66 undef) (a.tmps.getD 162 undef) w := hn 162 (by simp)
  have h2 : KIs lo K A0 (.part .name2) (a.tmps.getD 66 undef) (a.tmps.getD 163 undef) w := hn 163 (by simp)
  obtain ⟨⟨f0, c0, e0⟩, s0⟩ := h0
  obtain ⟨⟨f1, c1, e1⟩, s1⟩ := h1
  obtain ⟨⟨f2, c2, e2⟩, s2⟩ := h2
  rw [e0] at s0
  rw [e1] at s1
  rw [e2] at s2
  refine op_val (run_build3 a.eval (w := w) (x0 := .tmp 161) (x1 := .tmp 162) (x2 := .tmp 163) e0 e1 e2 (opOf ho (by kernel_rfl))) (hK _ _ (bl_alloc (Below.refl _ _) _) (fun t ht => ?_))
  rw [hd] at ht; injection ht with ht; subst ht
  refine RowIs.new (ps := [(.func (.func f0) #[] c0, .h), (.func (.func f1) #[] c1, .h2), (.func (.func f2) #[] c2, .name2)]) (fun q hq => ?_) (Nat.le_of_ble_eq_true rfl) hlo
  simp only [List.mem_cons, List.not_mem_nil, or_false] at hq
  rcases hq with rfl | rfl | rfl
  · exact s0
  · exact s1
  · exact s2
theorem rob_118 : ∀ o, opsR[118]? = some o → 15 < 100 ∧ ∃ x, o.op = Op.insert 64 (.tmp 66) (.const (.int .u32 ((15 : Nat) : Int))) x ∧ ∀ (a : Act) (w : World), (∀ t ∈ ([164] : List Nat), KIs lo K A0 (kT K A0 t) (a.tmps.getD 66 undef) (a.tmps.getD t undef) w) → KIs lo K A0 (.row (rowsOf 15)) (a.tmps.getD 66 undef) (a.eval x) w := by
  intro o ho
  refine ⟨by decide, .tmp 164, opOf ho (by kernel_rfl), fun a w hn => ?_⟩
  have h0 : KIs lo K A0 (.row [.h, .h2, .name2]) (a.tmps.getD 66 undef) (a.tmps.getD 164 undef) w := hn 164 (by simp)
  exact h0
theorem rob_119 : ROb lo K A0 Q 119 [15] := by
  intro o ho a w hlo hn Kk hK
  have hd : o.dst = some 165 := dstIs ho (by kernel_rfl)
  have h0 : KIs lo K A0 (.full [.h, .cookie, .verf, .count]) (a.tmps.getD 66 undef) (a.tmps.getD 15 undef) w := hn 15 (by simp)
  exact op_move (x := .tmp 15) (opOf ho (by kernel_rfl)) rfl (hK _ _ (Below.refl _ _) (fun t ht => by rw [hd] at ht; injection ht with ht; subst ht; exact h0))
theorem rob_120 : ∀ o, opsR[120]? = some o → 16 < 100 ∧ ∃ x, o.op = Op.insert 64 (.tmp 66) (.const (.int .u32 ((16 : Nat) : Int))) x ∧ ∀ (a : Act) (w : World), (∀ t ∈ ([165] : List Nat), KIs lo K A0 (kT K A0 t) (a.tmps.getD 66 undef) (a.tmps.getD t undef) w) → KIs lo K A0 (.row (rowsOf 16)) (a.tmps.getD 66 undef) (a.eval x) w := by
  intro o ho
  refine ⟨by decide, .tmp 165, opOf ho (by kernel_rfl), fun a w hn => ?_⟩
  have h0 : KIs lo K A0 (.full [.h, .cookie, .verf, .count]) (a.tmps.getD 66 undef) (a.tmps.getD 165 undef) w := hn 165 (by simp)
  exact FullIs.row h0
theorem rob_121 : ROb lo K A0 Q 121 [15] := by
  intro o ho a w hlo hn Kk hK
  have hd : o.dst = some 166 := dstIs ho (by kernel_rfl)
  have h0 : KIs lo K A0 (.full [.h, .cookie, .verf, .count]) (a.tmps.getD 66 undef) (a.tmps.getD 15 undef) w := hn 15 (by simp)
  exact op_move (x := .tmp 15) (opOf ho (by kernel_rfl)) rfl (hK _ _ (Below.refl _ _) (fun t ht => by rw [hd] at ht; injection ht with ht; subst ht; exact h0))
theorem rob_122 : ROb lo K A0 Q 122 [15] := by
  intro o ho a w hlo hn Kk hK
  have hd : o.dst = some 167 := dstIs ho (by kernel_rfl)
  have h0 : KIs lo K A0 (.full [.h, .cookie, .verf, .count]) (a.tmps.getD 66 undef) (a.tmps.getD 15 undef) w := hn 15 (by simp)
  exact op_move (x := .tmp 15) (opOf ho (by kernel_rfl)) rfl (hK _ _ (Below.refl _ _) (fun t ht => by rw [hd] at ht; injection ht with ht; subst ht; exact h0))
theorem rob_123 : ROb lo K A0 Q 123 [167] := by
  intro o ho a w hlo hn Kk hK
  have hd : o.dst = some 168 := dstIs ho (by kernel_rfl)
  have h0 : KIs lo K A0 (.full [.h, .cookie, .verf, .count]) (a.tmps.getD 66 undef) (a.tmps.getD 167 undef) w := hn 167 (by simp)
  obtain ⟨ps, b, e, -, -, -, -, hl, -⟩ := h0
  have hl4 : ps.length = 4 := by have := congrArg List.length hl; simpa using this
  rw [hl4] at e
  exact op_val (run_len a.eval (w := w) (x := .tmp 167) e (opOf ho (by kernel_rfl))) (hK _ _ (Below.refl _ _) (fun t ht => by rw [hd] at ht; injection ht with ht; subst ht; exact rfl))
theorem rob_124 : ROb lo K A0 Q 124 [15] := by
  intro o ho a w hlo hn Kk hK
  have hd : o.dst = some 169 := dstIs ho (by kernel_rfl)
  have h0 : KIs lo K A0 (.full [.h, .cookie, .verf, .count]) (a.tmps.getD 66 undef) (a.tmps.getD 15 undef) w := hn 15 (by simp)
  exact op_move (x := .tmp 15) (opOf ho (by kernel_rfl)) rfl (hK _ _ (Below.refl _ _) (fun t ht => by rw [hd] at ht; injection ht with ht; subst ht; exact h0))
theorem rob_125 : ROb lo K A0 Q 125 [169] := by
  intro o ho a w hlo hn Kk hK
  have hd : o.dst = some 170 := dstIs ho (by kernel_rfl)
  have h0 : KIs lo K A0 (.full [.h, .cookie, .verf, .count]) (a.tmps.getD 66 undef) (a.tmps.getD 169 undef) w := hn 169 (by simp)
  obtain ⟨ps, b, e, -, -, -, -, hl, -⟩ := h0
  have hl4 : ps.length = 4 := by have := congrArg List.length hl; simpa using this
  rw [hl4] at e
  exact op_val (run_len a.eval (w := w) (x := .tmp 169) e (opOf ho (by kernel_rfl))) (hK _ _ (Below.refl _ _) (fun t ht => by rw [hd] at ht; injection ht with ht; subst ht; exact rfl))
theorem rob_126 : ROb lo K A0 Q 126 [166, 168, 170] := by
  intro o ho a w hlo hn Kk hK
  have hd : o.dst = some 171 := dstIs ho (by kernel_rfl)
  have h0 : KIs lo K A0 (.full [.h, .cookie, .verf, .count]) (a.tmps.getD 66 undef) (a.tmps.getD 166 undef) w := hn 166 (by simp)
  have h1 : KIs lo K A0 (.ex (.int .i64 4)) (a.tmps.getD 66 undef) (a.tmps.getD 168 undef) w := hn 168 (by simp)
  have h2 : KIs lo K A0 (.ex (.int .i64 4)) (a.tmps.getD 66 undef) (a.tmps.getD 170 undef) w := hn 170 (by simp)
  have h0' := h0
  obtain ⟨ps, b, e, -, -, -, -, hl, -⟩ := h0
  have hl4 : ps.length = 4 := by have := congrArg List.length hl; simpa using this
  rw [hl4] at e
  exact op_val (run_cut4 a.eval (w := w) (x := .tmp 166) (y := .tmp 168) (z := .tmp 170) e h1 h2 (opOf ho (by kernel_rfl))) (hK _ _ (Below.refl _ _) (fun t ht => by rw [hd] at ht; injection ht with ht; subst ht; exact (by rw [← e]; exact h0')))
theorem rob_127 : ROb lo K A0 Q 127 [1] := by
  intro o ho a w hlo hn Kk hK
  have hd : o.dst = some 172 := dstIs ho (by kernel_rfl)
  have h0 : KIs lo K A0 (.a0) (a.tmps.getD 66 undef) (a.tmps.getD 1 undef) w := hn 1 (by simp)
  exact op_load (x := .tmp 1) agg_ptrArgs (opOf ho (by kernel_rfl)) h0.1 h0.2.2.2 (hK _ _ (Below.refl _ _) (fun t ht => by rw [hd] at ht; injection ht with ht; subst ht; exact rfl))
theorem rob_128 : ROb lo K A0 Q 128 [172] := by
  intro o ho a w hlo hn Kk hK
  have hd : o.dst = some 173 := dstIs ho (by kernel_rfl)
  have h0 : KIs lo K A0 (.ex (.pointer (some ⟨K, 0, none⟩))) (a.tmps.getD 66 undef) (a.tmps.getD 172 undef) w := hn 172 (by simp)
  exact op_nil (x := .tmp 172) (opOf ho (by kernel_rfl)) h0 (hK _ _ (Below.refl _ _) (fun t ht => by rw [hd] at ht; injection ht with ht; subst ht; exact rfl))
theorem rob_129 : ROb lo K A0 Q 129 [173] := by
  intro o ho a w hlo hn Kk hK
  have hd : o.dst = some 174 := dstIs ho (by kernel_rfl)
  have h0 : KIs lo K A0 (.ex (.pointer (some ⟨K, 0, none⟩))) (a.tmps.getD 66 undef) (a.tmps.getD 173 undef) w := hn 173 (by simp)
  exact op_field (x := .tmp 173) 11 (fld11 K) (opOf ho (by kernel_rfl)) h0 (hK _ _ (Below.refl _ _) (fun t ht => by rw [hd] at ht; injection ht with ht; subst ht; exact rfl))
theorem rob_130 : ROb lo K A0 Q 130 [174] := by
  intro o ho a w hlo hn Kk hK
  have hd : o.dst = some 175 := dstIs ho (by kernel_rfl)
  have h0 : KIs lo K A0 (.ex (.pointer (some ⟨K, 25, none⟩))) (a.tmps.getD 66 undef) (a.tmps.getD 174 undef) w := hn 174 (by simp)
  refine op_call (f := 41) (ts := #[97]) (args := #[.tmp 174]) (fun args w => by kernel_rfl) (opOf ho (by kernel_rfl)) (by simp [show a.eval (.tmp 174) = _ from h0]) (Number_mk (T := K) (o := 25)) ?_
  rintro e w' ⟨fv, rfl, b1, s1⟩
  exact ⟨_, rfl, hK _ _ b1 (fun t ht => by rw [hd] at ht; injection ht with ht; subst ht; exact ⟨ShortShape.isFunc s1, ShortShape.low s1 hlo⟩)⟩
theorem rob_131 : ROb lo K A0 Q 131 [175] := by
  intro o ho a w hlo hn Kk hK
  have hd : o.dst = some 176 := dstIs ho (by kernel_rfl)
  have h0 : KIs lo K A0 (.part .max) (a.tmps.getD 66 undef) (a.tmps.getD 175 undef) w := hn 175 (by simp)
  obtain ⟨⟨f0, c0, e0⟩, s0⟩ := h0
  rw [e0] at s0
  refine op_val (run_build1 a.eval (w := w) (x0 := .tmp 175) e0 (opOf ho (by kernel_rfl))) (hK _ _ (bl_alloc (Below.refl _ _) _) (fun t ht => ?_))
  rw [hd] at ht; injection ht with ht; subst ht
  exact ⟨_, One1.new hlo, PkShape.ck s0 (CK.of_below (bl_alloc (Below.refl _ _) _))⟩
theorem rob_132 : ROb lo K A0 Q 132 [171, 176] := by
  intro o ho a w hlo hn Kk hK
  have hd : o.dst = some 177 := dstIs ho (by kernel_rfl)
  have h0 : KIs lo K A0 (.full [.h, .cookie, .verf, .count]) (a.tmps.getD 66 undef) (a.tmps.getD 171 undef) w := hn 171 (by simp)
  have h1 : KIs lo K A0 (.ones .max) (a.tmps.getD 66 undef) (a.tmps.getD 176 undef) w := hn 176 (by simp)
  obtain ⟨ps, b, e, hps, hb1, hb2, hc, hl, hsh⟩ := h0
  obtain ⟨fv, ⟨hp1, ⟨A1, n1, c1, e1⟩, hb3⟩, hs1⟩ := h1
  have hl4 : ps.length = 4 := by have := congrArg List.length hl; simpa using this
  refine op_append_part (s := .tmp 171) (x := .tmp 176) (opOf ho (by kernel_rfl)) e rfl hc hp1 (by rw [List.length_map]) (by rw [List.length_map]; omega) trivial fun c w' hb hpl => hK _ _ hb (fun t ht => ?_)
  rw [hd] at ht; injection ht with ht; subst ht
  refine ⟨ps ++ [(fv, .max)], by rw [List.map_append]; exact hpl, by rw [List.map_append, hl]; rfl, fun q hq => ?_, fun g hg => ?_⟩
  · rcases List.mem_append.1 hq with hq | hq
    · exact (hsh q hq).ck (CK.of_below hb)
    · simp only [List.mem_cons, List.not_mem_nil, or_false] at hq
      subst hq
      exact hs1.ck (CK.of_below hb)
  · injection hg with hg; subst hg
    refine ⟨hlo, ?_⟩
    rcases hpl with ⟨h, _⟩ | ⟨b', off', c', h, _, h2, _⟩
    · cases h
    · injection h with h; injection h with h; injection h with h; subst h; exact h2
theorem rob_133 : ∀ o, opsR[133]? = some o → 17 < 100 ∧ ∃ x, o.op = Op.insert 64 (.tmp 66) (.const (.int .u32 ((17 : Nat) : Int))) x ∧ ∀ (a : Act) (w : World), (∀ t ∈ ([177] : List Nat), KIs lo K A0 (kT K A0 t) (a.tmps.getD 66 undef) (a.tmps.getD t undef) w) → KIs lo K A0 (.row (rowsOf 17)) (a.tmps.getD 66 undef) (a.eval x) w := by
  intro o ho
  refine ⟨by decide, .tmp 177, opOf ho (by kernel_rfl), fun a w hn => ?_⟩
  have h0 : KIs lo K A0 (.row [.h, .cookie, .verf, .count, .max]) (a.tmps.getD 66 undef) (a.tmps.getD 177 undef) w := hn 177 (by simp)
  exact h0
theorem rob_134 : ROb lo K A0 Q 134 [66] := by
  intro o ho a w hlo hn Kk hK
  have hd : o.dst = some 178 := dstIs ho (by kernel_rfl)
  have h0 : KIs lo K A0 (.mapv) (a.tmps.getD 66 undef) (a.tmps.getD 66 undef) w := hn 66 (by simp)
  exact op_move (x := .tmp 66) (opOf ho (by kernel_rfl)) rfl (hK _ _ (Below.refl _ _) (fun t ht => by rw [hd] at ht; injection ht with ht; subst ht; exact h0))
theorem rob_135 : ROb lo K A0 Q 135 [178] := by
  intro o ho a w hlo hn Kk hK
  have hd : o.dst = some 2 := dstIs ho (by kernel_rfl)
  have h0 : KIs lo K A0 (.mapv) (a.tmps.getD 66 undef) (a.tmps.getD 178 undef) w := hn 178 (by simp)
  exact op_assign (x := .tmp 178) (opOf ho (by kernel_rfl)) rfl (hK _ _ (Below.refl _ _) (fun t ht => by rw [hd] at ht; injection ht with ht; subst ht; exact h0))
end
end Go.Proofs.YtgmhapjidbdhnaaGreat
namespace Go.Proofs.YtgmhapjidbdhnaaGreat
open Go.RowKit
section
variable {lo K A0 : Nat} {Q : Exit → Act → World → Prop}
set_option maxRecDepth 20000 in
theorem rob_all (i : Nat) (hi : i < 136) (h : tT i = .oth) : ROb lo K A0 Q i (nN i) := by
  match i, hi, h with
  | 0, _, h => exact absurd h (by decide)
  | 1, _, h => exact absurd h (by decide)
  | 2, _, _ => exact rob_2
  | 3, _, h => exact absurd h (by decide)
  | 4, _, _ => exact rob_4
  | 5, _, h => exact absurd h (by decide)
  | 6, _, _ => exact rob_6
  | 7, _, h => exact absurd h (by decide)
  | 8, _, _ => exact rob_8
  | 9, _, h => exact absurd h (by decide)
  | 10, _, _ => exact rob_10
  | 11, _, h => exact absurd h (by decide)
  | 12, _, _ => exact rob_12
  | 13, _, _ => exact rob_13
  | 14, _, _ => exact rob_14
  | 15, _, _ => exact rob_15
  | 16, _, _ => exact rob_16
  | 17, _, _ => exact rob_17
  | 18, _, _ => exact rob_18
  | 19, _, _ => exact rob_19
  | 20, _, _ => exact rob_20
  | 21, _, _ => exact rob_21
  | 22, _, _ => exact rob_22
  | 23, _, _ => exact rob_23
  | 24, _, h => exact absurd h (by decide)
  | 25, _, _ => exact rob_25
  | 26, _, h => exact absurd h (by decide)
  | 27, _, _ => exact rob_27
  | 28, _, h => exact absurd h (by decide)
  | 29, _, _ => exact rob_29
  | 30, _, h => exact absurd h (by decide)
  | 31, _, _ => exact rob_31
  | 32, _, _ => exact rob_32
  | 33, _, _ => exact rob_33
  | 34, _, _ => exact rob_34
  | 35, _, _ => exact rob_35
  | 36, _, _ => exact rob_36
  | 37, _, h => exact absurd h (by decide)
  | 38, _, _ => exact rob_38
  | 39, _, _ => exact rob_39
  | 40, _, _ => exact rob_40
  | 41, _, _ => exact rob_41
  | 42, _, h => exact absurd h (by decide)
  | 43, _, _ => exact rob_43
  | 44, _, _ => exact rob_44
  | 45, _, _ => exact rob_45
  | 46, _, _ => exact rob_46
  | 47, _, h => exact absurd h (by decide)
  | 48, _, _ => exact rob_48
  | 49, _, _ => exact rob_49
  | 50, _, _ => exact rob_50
  | 51, _, _ => exact rob_51
  | 52, _, _ => exact rob_52
  | 53, _, _ => exact rob_53
  | 54, _, _ => exact rob_54
  | 55, _, _ => exact rob_55
  | 56, _, _ => exact rob_56
  | 57, _, _ => exact rob_57
  | 58, _, _ => exact rob_58
  | 59, _, _ => exact rob_59
  | 60, _, h => exact absurd h (by decide)
  | 61, _, _ => exact rob_61
  | 62, _, _ => exact rob_62
  | 63, _, _ => exact rob_63
  | 64, _, _ => exact rob_64
  | 65, _, _ => exact rob_65
  | 66, _, _ => exact rob_66
  | 67, _, _ => exact rob_67
  | 68, _, _ => exact rob_68
  | 69, _, _ => exact rob_69
  | 70, _, _ => exact rob_70
  | 71, _, _ => exact rob_71
  | 72, _, _ => exact rob_72
  | 73, _, _ => exact rob_73
  | 74, _, _ => exact rob_74
  | 75, _, _ => exact rob_75
  | 76, _, h => exact absurd h (by decide)
  | 77, _, _ => exact rob_77
  | 78, _, _ => exact rob_78
  | 79, _, _ => exact rob_79
  | 80, _, _ => exact rob_80
  | 81, _, h => exact absurd h (by decide)
  | 82, _, _ => exact rob_82
  | 83, _, _ => exact rob_83
  | 84, _, _ => exact rob_84
  | 85, _, _ => exact rob_85
  | 86, _, _ => exact rob_86
  | 87, _, h => exact absurd h (by decide)
  | 88, _, _ => exact rob_88
  | 89, _, _ => exact rob_89
  | 90, _, _ => exact rob_90
  | 91, _, _ => exact rob_91
  | 92, _, _ => exact rob_92
  | 93, _, _ => exact rob_93
  | 94, _, _ => exact rob_94
  | 95, _, _ => exact rob_95
  | 96, _, _ => exact rob_96
  | 97, _, _ => exact rob_97
  | 98, _, _ => exact rob_98
  | 99, _, _ => exact rob_99
  | 100, _, _ => exact rob_100
  | 101, _, _ => exact rob_101
  | 102, _, _ => exact rob_102
  | 103, _, _ => exact rob_103
  | 104, _, _ => exact rob_104
  | 105, _, _ => exact rob_105
  | 106, _, _ => exact rob_106
  | 107, _, h => exact absurd h (by decide)
  | 108, _, _ => exact rob_108
  | 109, _, _ => exact rob_109
  | 110, _, _ => exact rob_110
  | 111, _, _ => exact rob_111
  | 112, _, _ => exact rob_112
  | 113, _, h => exact absurd h (by decide)
  | 114, _, _ => exact rob_114
  | 115, _, _ => exact rob_115
  | 116, _, _ => exact rob_116
  | 117, _, _ => exact rob_117
  | 118, _, h => exact absurd h (by decide)
  | 119, _, _ => exact rob_119
  | 120, _, h => exact absurd h (by decide)
  | 121, _, _ => exact rob_121
  | 122, _, _ => exact rob_122
  | 123, _, _ => exact rob_123
  | 124, _, _ => exact rob_124
  | 125, _, _ => exact rob_125
  | 126, _, _ => exact rob_126
  | 127, _, _ => exact rob_127
  | 128, _, _ => exact rob_128
  | 129, _, _ => exact rob_129
  | 130, _, _ => exact rob_130
  | 131, _, _ => exact rob_131
  | 132, _, _ => exact rob_132
  | 133, _, h => exact absurd h (by decide)
  | 134, _, _ => exact rob_134
  | 135, _, _ => exact rob_135
  | n + 136, h, _ => exact absurd h (by omega)
/-- What is to be shown of an entry. -/
def RIns (lo K A0 i k : Nat) : Prop := ∀ o, opsR[i]? = some o → k < 100 ∧ ∃ x, o.op = Op.insert 64 (.tmp 66) (.const (.int .u32 (k : Int))) x ∧ ∀ (a : Act) (w : World), (∀ t ∈ nN i, KIs lo K A0 (kT K A0 t) (a.tmps.getD 66 undef) (a.tmps.getD t undef) w) → KIs lo K A0 (.row (rowsOf k)) (a.tmps.getD 66 undef) (a.eval x) w
set_option maxRecDepth 20000 in
theorem rins_all (i k : Nat) (hi : i < 136) (h : tT i = .ins k) : RIns lo K A0 i k := by
  match i, hi, h with
  | 0, _, h => exact absurd (show OpTy.mk = .ins k from h) (by simp)
  | 1, _, h => injection (show OpTy.ins 0 = .ins k from h) with h; subst h; exact rob_1
  | 2, _, h => exact absurd (show OpTy.oth = .ins k from h) (by simp)
  | 3, _, h => injection (show OpTy.ins 1 = .ins k from h) with h; subst h; exact rob_3
  | 4, _, h => exact absurd (show OpTy.oth = .ins k from h) (by simp)
  | 5, _, h => injection (show OpTy.ins 5 = .ins k from h) with h; subst h; exact rob_5
  | 6, _, h => exact absurd (show OpTy.oth = .ins k from h) (by simp)
  | 7, _, h => injection (show OpTy.ins 18 = .ins k from h) with h; subst h; exact rob_7
  | 8, _, h => exact absurd (show OpTy.oth = .ins k from h) (by simp)
  | 9, _, h => injection (show OpTy.ins 19 = .ins k from h) with h; subst h; exact rob_9
  | 10, _, h => exact absurd (show OpTy.oth = .ins k from h) (by simp)
  | 11, _, h => injection (show OpTy.ins 20 = .ins k from h) with h; subst h; exact rob_11
  | 12, _, h => exact absurd (show OpTy.oth = .ins k from h) (by simp)
  | 13, _, h => exact absurd (show OpTy.oth = .ins k from h) (by simp)
  | 14, _, h => exact absurd (show OpTy.oth = .ins k from h) (by simp)
  | 15, _, h => exact absurd (show OpTy.oth = .ins k from h) (by simp)
  | 16, _, h => exact absurd (show OpTy.oth = .ins k from h) (by simp)
  | 17, _, h => exact absurd (show OpTy.oth = .ins k from h) (by simp)
  | 18, _, h => exact absurd (show OpTy.oth = .ins k from h) (by simp)
  | 19, _, h => exact absurd (show OpTy.oth = .ins k from h) (by simp)
  | 20, _, h => exact absurd (show OpTy.oth = .ins k from h) (by simp)
  | 21, _, h => exact absurd (show OpTy.oth = .ins k from h) (by simp)
  | 22, _, h => exact absurd (show OpTy.oth = .ins k from h) (by simp)
  | 23, _, h => exact absurd (show OpTy.oth = .ins k from h) (by simp)
  | 24, _, h => injection (show OpTy.ins 2 = .ins k from h) with h; subst h; exact rob_24
  | 25, _, h => exact absurd (show OpTy.oth = .ins k from h) (by simp)
  | 26, _, h => injection (show OpTy.ins 3 = .ins k from h) with h; subst h; exact rob_26
  | 27, _, h => exact absurd (show OpTy.oth = .ins k from h) (by simp)
  | 28, _, h => injection (show OpTy.ins 12 = .ins k from h) with h; subst h; exact rob_28
  | 29, _, h => exact absurd (show OpTy.oth = .ins k from h) (by simp)
  | 30, _, h => injection (show OpTy.ins 13 = .ins k from h) with h; subst h; exact rob_30
  | 31, _, h => exact absurd (show OpTy.oth = .ins k from h) (by simp)
  | 32, _, h => exact absurd (show OpTy.oth = .ins k from h) (by simp)
  | 33, _, h => exact absurd (show OpTy.oth = .ins k from h) (by simp)
  | 34, _, h => exact absurd (show OpTy.oth = .ins k from h) (by simp)
  | 35, _, h => exact absurd (show OpTy.oth = .ins k from h) (by simp)
  | 36, _, h => exact absurd (show OpTy.oth = .ins k from h) (by simp)
  | 37, _, h => injection (show OpTy.ins 4 = .ins k from h) with h; subst h; exact rob_37
  | 38, _, h => exact absurd (show OpTy.oth = .ins k from h) (by simp)
  | 39, _, h => exact absurd (show OpTy.oth = .ins k from h) (by simp)
  | 40, _, h => exact absurd (show OpTy.oth = .ins k from h) (by simp)
  | 41, _, h => exact absurd (show OpTy.oth = .ins k from h) (by simp)
  | 42, _, h => injection (show OpTy.ins 6 = .ins k from h) with h; subst h; exact rob_42
  | 43, _, h => exact absurd (show OpTy.oth = .ins k from h) (by simp)
  | 44, _, h => exact absurd (show OpTy.oth = .ins k from h) (by simp)
  | 45, _, h => exact absurd (show OpTy.oth = .ins k from h) (by simp)
  | 46, _, h => exact absurd (show OpTy.oth = .ins k from h) (by simp)
  | 47, _, h => injection (show OpTy.ins 21 = .ins k from h) with h; subst h; exact rob_47
  | 48, _, h => exact absurd (show OpTy.oth = .ins k from h) (by simp)
  | 49, _, h => exact absurd (show OpTy.oth = .ins k from h) (by simp)
  | 50, _, h => exact absurd (show OpTy.oth = .ins k from h) (by simp)
  | 51, _, h => exact absurd (show OpTy.oth = .ins k from h) (by simp)
  | 52, _, h => exact absurd (show OpTy.oth = .ins k from h) (by simp)
  | 53, _, h => exact absurd (show OpTy.oth = .ins k from h) (by simp)
  | 54, _, h => exact absurd (show OpTy.oth = .ins k from h) (by simp)
  | 55, _, h => exact absurd (show OpTy.oth = .ins k from h) (by simp)
  | 56, _, h => exact absurd (show OpTy.oth = .ins k from h) (by simp)
  | 57, _, h => exact absurd (show OpTy.oth = .ins k from h) (by simp)
  | 58, _, h => exact absurd (show OpTy.oth = .ins k from h) (by simp)
  | 59, _, h => exact absurd (show OpTy.oth = .ins k from h) (by simp)
  | 60, _, h => injection (show OpTy.ins 7 = .ins k from h) with h; subst h; exact rob_60
  | 61, _, h => exact absurd (show OpTy.oth = .ins k from h) (by simp)
  | 62, _, h => exact absurd (show OpTy.oth = .ins k from h) (by simp)
  | 63, _, h => exact absurd (show OpTy.oth = .ins k from h) (by simp)
  | 64, _, h => exact absurd (show OpTy.oth = .ins k from h) (by simp)
  | 65, _, h => exact absurd (show OpTy.oth = .ins k from h) (by simp)
  | 66, _, h => exact absurd (show OpTy.oth = .ins k from h) (by simp)
  | 67, _, h => exact absurd (show OpTy.oth = .ins k from h) (by simp)
  | 68, _, h => exact absurd (show OpTy.oth = .ins k from h) (by simp)
  | 69, _, h => exact absurd (show OpTy.oth = .ins k from h) (by simp)
  | 70, _, h => exact absurd (show OpTy.oth = .ins k from h) (by simp)
  | 71, _, h => exact absurd (show OpTy.oth = .ins k from h) (by simp)
  | 72, _, h => exact absurd (show OpTy.oth = .ins k from h) (by simp)
  | 73, _, h => exact absurd (show OpTy.oth = .ins k from h) (by simp)
  | 74, _, h => exact absurd (show OpTy.oth = .ins k from h) (by simp)
  | 75, _, h => exact absurd (show OpTy.oth = .ins k from h) (by simp)
  | 76, _, h => injection (show OpTy.ins 8 = .ins k from h) with h; subst h; exact rob_76
  | 77, _, h => exact absurd (show OpTy.oth = .ins k from h) (by simp)
  | 78, _, h => exact absurd (show OpTy.oth = .ins k from h) (by simp)
  | 79, _, h => exact absurd (show OpTy.oth = .ins k from h) (by simp)
  | 80, _, h => exact absurd (show OpTy.oth = .ins k from h) (by simp)
  | 81, _, h => injection (show OpTy.ins 9 = .ins k from h) with h; subst h; exact rob_81
  | 82, _, h => exact absurd (show OpTy.oth = .ins k from h) (by simp)
  | 83, _, h => exact absurd (show OpTy.oth = .ins k from h) (by simp)
  | 84, _, h => exact absurd (show OpTy.oth = .ins k from h) (by simp)
  | 85, _, h => exact absurd (show OpTy.oth = .ins k from h) (by simp)
  | 86, _, h => exact absurd (show OpTy.oth = .ins k from h) (by simp)
  | 87, _, h => injection (show OpTy.ins 10 = .ins k from h) with h; subst h; exact rob_87
  | 88, _, h => exact absurd (show OpTy.oth = .ins k from h) (by simp)
  | 89, _, h => exact absurd (show OpTy.oth = .ins k from h) (by simp)
  | 90, _, h => exact absurd (show OpTy.oth = .ins k from h) (by simp)
  | 91, _, h => exact absurd (show OpTy.oth = .ins k from h) (by simp)
  | 92, _, h => exact absurd (show OpTy.oth = .ins k from h) (by simp)
  | 93, _, h => exact absurd (show OpTy.oth = .ins k from h) (by simp)
  | 94, _, h => exact absurd (show OpTy.oth = .ins k from h) (by simp)
  | 95, _, h => exact absurd (show OpTy.oth = .ins k from h) (by simp)
  | 96, _, h => exact absurd (show OpTy.oth = .ins k from h) (by simp)
  | 97, _, h => exact absurd (show OpTy.oth = .ins k from h) (by simp)
  | 98, _, h => exact absurd (show OpTy.oth = .ins k from h) (by simp)
  | 99, _, h => exact absurd (show OpTy.oth = .ins k from h) (by simp)
  | 100, _, h => exact absurd (show OpTy.oth = .ins k from h) (by simp)
  | 101, _, h => exact absurd (show OpTy.oth = .ins k from h) (by simp)
  | 102, _, h => exact absurd (show OpTy.oth = .ins k from h) (by simp)
  | 103, _, h => exact absurd (show OpTy.oth = .ins k from h) (by simp)
  | 104, _, h => exact absurd (show OpTy.oth = .ins k from h) (by simp)
  | 105, _, h => exact absurd (show OpTy.oth = .ins k from h) (by simp)
  | 106, _, h => exact absurd (show OpTy.oth = .ins k from h) (by simp)
  | 107, _, h => injection (show OpTy.ins 11 = .ins k from h) with h; subst h; exact rob_107
  | 108, _, h => exact absurd (show OpTy.oth = .ins k from h) (by simp)
  | 109, _, h => exact absurd (show OpTy.oth = .ins k from h) (by simp)
  | 110, _, h => exact absurd (show OpTy.oth = .ins k from h) (by simp)
  | 111, _, h => exact absurd (show OpTy.oth = .ins k from h) (by simp)
  | 112, _, h => exact absurd (show OpTy.oth = .ins k from h) (by simp)
  | 113, _, h => injection (show OpTy.ins 14 = .ins k from h) with h; subst h; exact rob_113
  | 114, _, h => exact absurd (show OpTy.oth = .ins k from h) (by simp)
  | 115, _, h => exact absurd (show OpTy.oth = .ins k from h) (by simp)
  | 116, _, h => exact absurd (show OpTy.oth = .ins k from h) (by simp)
  | 117, _, h => exact absurd (show OpTy.oth = .ins k from h) (by simp)
  | 118, _, h => injection (show OpTy.ins 15 = .ins k from h) with h; subst h; exact rob_118
  | 119, _, h => exact absurd (show OpTy.oth = .ins k from h) (by simp)
  | 120, _, h => injection (show OpTy.ins 16 = .ins k from h) with h; subst h; exact rob_120
  | 121, _, h => exact absurd (show OpTy.oth = .ins k from h) (by simp)
  | 122, _, h => exact absurd (show OpTy.oth = .ins k from h) (by simp)
  | 123, _, h => exact absurd (show OpTy.oth = .ins k from h) (by simp)
  | 124, _, h => exact absurd (show OpTy.oth = .ins k from h) (by simp)
  | 125, _, h => exact absurd (show OpTy.oth = .ins k from h) (by simp)
  | 126, _, h => exact absurd (show OpTy.oth = .ins k from h) (by simp)
  | 127, _, h => exact absurd (show OpTy.oth = .ins k from h) (by simp)
  | 128, _, h => exact absurd (show OpTy.oth = .ins k from h) (by simp)
  | 129, _, h => exact absurd (show OpTy.oth = .ins k from h) (by simp)
  | 130, _, h => exact absurd (show OpTy.oth = .ins k from h) (by simp)
  | 131, _, h => exact absurd (show OpTy.oth = .ins k from h) (by simp)
  | 132, _, h => exact absurd (show OpTy.oth = .ins k from h) (by simp)
  | 133, _, h => injection (show OpTy.ins 17 = .ins k from h) with h; subst h; exact rob_133
  | 134, _, h => exact absurd (show OpTy.oth = .ins k from h) (by simp)
  | 135, _, h => exact absurd (show OpTy.oth = .ins k from h) (by simp)
  | n + 136, h, _ => exact absurd h (by omega)
end
end Go.Proofs.YtgmhapjidbdhnaaGreat
namespace Go.Proofs.YtgmhapjidbdhnaaGreat
open Go.RowKit
def isMapv : Ka → Bool
  | .mapv => true
  | _ => false
theorem kT_map (K A0 t : Nat) (h : iM t = false) (mv mv' v : Value) (lo : Nat) (w : World) (hk : KIs lo K A0 (kT K A0 t) mv v w) : KIs lo K A0 (kT K A0 t) mv' v w := by
  have hn : isMapv (kT K A0 t) = false := by
    rcases Nat.lt_or_ge t 179 with ht | ht
    · have hall : ((List.range 179).all fun t => iM t || !(isMapv (kT K A0 t))) = true := by kernel_rfl
      have := List.all_eq_true.1 hall t (List.mem_range.2 ht)
      rw [h] at this
      simpa using this
    · have hl : (kL K A0).length ≤ 179 := Nat.le_of_ble_eq_true (by kernel_rfl)
      rw [kT, List.getElem?_eq_none (by omega)]
      rfl
  cases hkk : kT K A0 t with
  | mapv => rw [hkk] at hn; cases hn
  | any => trivial
  | ex x => rw [hkk] at hk; exact hk
  | a0 => rw [hkk] at hk; exact hk
  | part p => rw [hkk] at hk; exact hk
  | row l => rw [hkk] at hk; exact hk
  | full l => rw [hkk] at hk; exact hk
  | time => rw [hkk] at hk; exact hk
  | ones p => rw [hkk] at hk; exact hk
  | onesT => rw [hkk] at hk; exact hk
  | nums l => rw [hkk] at hk; exact hk
  | cond l => rw [hkk] at hk; exact hk
/-- The map of parts of what is asked at K. -/
def RowsMap (w : World) (lo K M : Nat) : Prop := ∃ D n, MapAt w M n D ∧ (∀ p, p ≤ 21 → Maps.has D (kP p) = true ∧ ∃ v, (∀ z, D.atKey (kP p) z = .held v) ∧ RowIs w lo K v (rowsOf p)) ∧ ∀ p, 21 < p → p < 4294967296 → Maps.has D (kP p) = false
theorem keyT (p : Nat) (hp : p ≤ 21) : ∃ i, i < 136 ∧ tT i = .ins p := by
  match p, hp with
  | 0, _ => exact ⟨1, by decide, rfl⟩
  | 1, _ => exact ⟨3, by decide, rfl⟩
  | 2, _ => exact ⟨24, by decide, rfl⟩
  | 3, _ => exact ⟨26, by decide, rfl⟩
  | 4, _ => exact ⟨37, by decide, rfl⟩
  | 5, _ => exact ⟨5, by decide, rfl⟩
  | 6, _ => exact ⟨42, by decide, rfl⟩
  | 7, _ => exact ⟨60, by decide, rfl⟩
  | 8, _ => exact ⟨76, by decide, rfl⟩
  | 9, _ => exact ⟨81, by decide, rfl⟩
  | 10, _ => exact ⟨87, by decide, rfl⟩
  | 11, _ => exact ⟨107, by decide, rfl⟩
  | 12, _ => exact ⟨28, by decide, rfl⟩
  | 13, _ => exact ⟨30, by decide, rfl⟩
  | 14, _ => exact ⟨113, by decide, rfl⟩
  | 15, _ => exact ⟨118, by decide, rfl⟩
  | 16, _ => exact ⟨120, by decide, rfl⟩
  | 17, _ => exact ⟨133, by decide, rfl⟩
  | 18, _ => exact ⟨7, by decide, rfl⟩
  | 19, _ => exact ⟨9, by decide, rfl⟩
  | 20, _ => exact ⟨11, by decide, rfl⟩
  | 21, _ => exact ⟨47, by decide, rfl⟩
  | n + 22, h => exact absurd h (by omega)
theorem keyN (p : Nat) (hp : 21 < p) (i : Nat) (h : tT i = .ins p) : False := by
  have hi : i < 136 ∨ 136 ≤ i := by omega
  rcases hi with hi | hi
  · have hall : ((List.range 136).all fun i => match tT i with | .ins k => decide (k ≤ 21) | _ => true) = true := by kernel_rfl
    have := List.all_eq_true.1 hall i (List.mem_range.2 hi)
    rw [h] at this
    simp at this
    omega
  · have hl : tL.length = 136 := by kernel_rfl
    rw [tT, List.getElem?_eq_none (by omega)] at h
    cases h
set_option maxRecDepth 100000 in
set_option maxHeartbeats 8000000 in
theorem rows_any {K : Nat} {w : World} : Calls Tryz.prog 23 #[.pointer (some ⟨K, 0, none⟩)] w fun e w' => ∃ M, e = .returned (.map (some M)) ∧ Below w.heap.size w w' ∧ RowsMap w' w.heap.size K M := by
  go_enter Tryz.func23, Tryz.ntmps23
  go_upto_region 1 with fail
  refine wp_world (fun wx => wx.cell? ⟨w.heap.size, 0, none⟩ = some (.pointer (some ⟨K, 0, none⟩)) ∧ Below w.heap.size w wx ∧ w.heap.size < wx.heap.size) ⟨by simp [go_sem], by (with_reducible (repeat' (first | exact Below.refl _ _ | assumption | apply bl_alloc | apply bl_drewN | apply bl_drew | refine bl_set ?_ ?_ _))) <;> (first | done | (simp; done) | (simp; omega) | omega), by simp⟩ ?_
  rintro w0 ⟨a0, hB0, hz0⟩
  refine wp_region_held_drew (S := fun wq => wq.cell? ⟨w.heap.size, 0, none⟩ = some (.pointer (some ⟨K, 0, none⟩))) rfl a0 fun hS0 => ?_
  (refine wpAnyH_take (i := 0) (v := ?_) rfl (by kernel_rfl) (by kernel_rfl) (by kernel_rfl) (fun _ _ _ h => h) (Or.inl ⟨by rfl, ?_⟩) (by assumption) ?_; rotate_left; (intro wq hSw; (try dsimp only at hSw); go_simp; (try with_reducible rfl)); rotate_left; (try dsimp only [Act.put]); (try simp only [List.setIfInBounds_toArray, List.set_cons_zero, List.set_cons_succ]))
  (refine wpAnyH_take (i := 1) (v := ?_) rfl (by kernel_rfl) (by kernel_rfl) (by kernel_rfl) (fun _ _ _ h => h) (Or.inl ⟨by rfl, ?_⟩) (by assumption) ?_; rotate_left; (intro wq hSw; (try dsimp only at hSw); go_simp; (try with_reducible rfl)); rotate_left; (try dsimp only [Act.put]); (try simp only [List.setIfInBounds_toArray, List.set_cons_zero, List.set_cons_succ]))
  (refine wpAnyH_take (i := 2) (v := ?_) rfl (by kernel_rfl) (by kernel_rfl) (by kernel_rfl) (fun _ _ _ h => h) (Or.inl ⟨by rfl, ?_⟩) (by assumption) ?_; rotate_left; (intro wq hSw; (try dsimp only at hSw); go_simp; (try with_reducible rfl)); rotate_left; (try dsimp only [Act.put]); (try simp only [List.setIfInBounds_toArray, List.set_cons_zero, List.set_cons_succ]))
  (refine wpAnyH_take (i := 4) (v := ?_) rfl (by kernel_rfl) (by kernel_rfl) (by kernel_rfl) (fun _ _ _ h => h) (Or.inl ⟨by rfl, ?_⟩) (by assumption) ?_; rotate_left; (intro wq hSw; (try dsimp only at hSw); go_simp; (try with_reducible rfl)); rotate_left; (try dsimp only [Act.put]); (try simp only [List.setIfInBounds_toArray, List.set_cons_zero, List.set_cons_succ]))
  (refine wpAnyH_take (i := 5) (v := ?_) rfl (by kernel_rfl) (by kernel_rfl) (by kernel_rfl) (fun _ _ _ h => h) (Or.inl ⟨by rfl, ?_⟩) (by assumption) ?_; rotate_left; (intro wq hSw; (try dsimp only at hSw); go_simp; (try with_reducible rfl)); rotate_left; (try dsimp only [Act.put]); (try simp only [List.setIfInBounds_toArray, List.set_cons_zero, List.set_cons_succ]))
  (refine wpAnyH_take (i := 6) (v := ?_) rfl (by kernel_rfl) (by kernel_rfl) (by kernel_rfl) (fun _ _ _ h => h) (Or.inl ⟨by rfl, ?_⟩) (by assumption) ?_; rotate_left; (intro wq hSw; (try dsimp only at hSw); go_simp; (try with_reducible rfl)); rotate_left; (try dsimp only [Act.put]); (try simp only [List.setIfInBounds_toArray, List.set_cons_zero, List.set_cons_succ]))
  refine wpAnyH_ready (rs := [3]) (by kernel_rfl) (by simp) ?_
  refine AllReadyH.cons rfl (fun K' hK => ?_) AllReadyH.nil
  rw [if_pos (by rfl)]
  go_simp
  go_at_call 37; (refine Calls.mono (Bytes_mk (T := K) (o := 1) (most := 64)) ?_); rintro e w1 ⟨v1, rfl, b1, s1⟩
  obtain ⟨f1, c1, rfl⟩ := BytesShape.isFunc s1
  have hb : Below w0.heap.size w0 w1 := bl_then (by (with_reducible (repeat' (first | exact Below.refl _ _ | assumption | apply bl_alloc | apply bl_drewN | apply bl_drew | refine bl_set ?_ ?_ _))) <;> (first | done | (simp; done) | (simp; omega) | omega)) b1
  have a1 : w1.cell? ⟨w.heap.size, 0, none⟩ = some (.pointer (some ⟨K, 0, none⟩)) := ((bcell hb).1 _ 0 hz0).trans a0
  have hz1 : w.heap.size < w1.heap.size := Nat.lt_of_lt_of_le hz0 hb.size
  have hB1 : Below w.heap.size w w1 := bl_then hB0 hb
  have k3 : Hid (KIs w.heap.size K w.heap.size (.part .h) undef (.func (.func f1) #[] c1) w1) := ⟨⟨_, _, rfl⟩, BytesShape.low s1 (Nat.le_of_lt hz0)⟩
  clear b1 s1
  go_wp2_with fail
  refine hK.out _ _ a1 fun hS1 => ?_
  clear hK K' hS0 hb a0 hz0 hB0
  (try dsimp only [Act.put]); (try simp only [List.setIfInBounds_toArray, List.set_cons_zero, List.set_cons_succ])
  refine wpAnyH_ready (rs := [7]) (by kernel_rfl) (by simp) ?_
  refine AllReadyH.cons rfl (fun K' hK => ?_) AllReadyH.nil
  rw [if_pos (by rfl)]
  go_simp
  go_at_call 37; (refine Calls.mono (Bytes_mk (T := K) (o := 3) (most := 64)) ?_); rintro e w2 ⟨v2, rfl, b1, s1⟩
  obtain ⟨f2, c2, rfl⟩ := BytesShape.isFunc s1
  have hb : Below w1.heap.size w1 w2 := bl_then (by (with_reducible (repeat' (first | exact Below.refl _ _ | assumption | apply bl_alloc | apply bl_drewN | apply bl_drew | refine bl_set ?_ ?_ _))) <;> (first | done | (simp; done) | (simp; omega) | omega)) b1
  have a2 : w2.cell? ⟨w.heap.size, 0, none⟩ = some (.pointer (some ⟨K, 0, none⟩)) := ((bcell hb).1 _ 0 hz1).trans a1
  have hz2 : w.heap.size < w2.heap.size := Nat.lt_of_lt_of_le hz1 hb.size
  have hB2 : Below w.heap.size w w2 := bl_then hB1 hb
  replace k3 := Lib.hid (KIs.ck _ _ _ _ _ k3.out (CK.of_below hb))
  have k4 : Hid (KIs w.heap.size K w.heap.size (.part .h2) undef (.func (.func f2) #[] c2) w2) := ⟨⟨_, _, rfl⟩, BytesShape.low s1 (Nat.le_of_lt hz1)⟩
  clear b1 s1
  go_wp2_with fail
  refine hK.out _ _ a2 fun hS2 => ?_
  clear hK K' hS1 hb a1 hz1 hB1
  (try dsimp only [Act.put]); (try simp only [List.setIfInBounds_toArray, List.set_cons_zero, List.set_cons_succ])
  (refine wpAnyH_take (i := 8) (v := ?_) rfl (by kernel_rfl) (by kernel_rfl) (by kernel_rfl) (fun _ _ _ h => h) (Or.inl ⟨by rfl, ?_⟩) (by assumption) ?_; rotate_left; (intro wq hSw; (try dsimp only at hSw); go_simp; (try with_reducible rfl)); rotate_left; (try dsimp only [Act.put]); (try simp only [List.setIfInBounds_toArray, List.set_cons_zero, List.set_cons_succ])); (try simp only [List.getElem_toArray, List.getElem_cons_succ, List.getElem_cons_zero]); (try dsimp only [Act.put]); (try simp only [List.setIfInBounds_toArray, List.set_cons_zero, List.set_cons_succ])
  (refine wpAnyH_take (i := 9) (v := ?_) rfl (by kernel_rfl) (by kernel_rfl) (by kernel_rfl) (fun _ _ _ h => h) (Or.inl ⟨by rfl, ?_⟩) (by assumption) ?_; rotate_left; (intro wq hSw; (try dsimp only at hSw); go_simp; (try with_reducible rfl)); rotate_left; (try dsimp only [Act.put]); (try simp only [List.setIfInBounds_toArray, List.set_cons_zero, List.set_cons_succ])); (try simp only [List.getElem_toArray, List.getElem_cons_succ, List.getElem_cons_zero]); (try dsimp only [Act.put]); (try simp only [List.setIfInBounds_toArray, List.set_cons_zero, List.set_cons_succ])
  refine wpAnyH_done (by kernel_rfl) ?_ _
  clear hS2
  go_upto_region 2 with fail
  refine wp_region_held_drew (S := fun wq => wq.cell? ⟨w.heap.size, 0, none⟩ = some (.pointer (some ⟨K, 0, none⟩))) rfl a2 fun hS0 => ?_
  (refine wpAnyH_take (i := 0) (v := ?_) rfl (by kernel_rfl) (by kernel_rfl) (by kernel_rfl) (fun _ _ _ h => h) (Or.inl ⟨by rfl, ?_⟩) (by assumption) ?_; rotate_left; (intro wq hSw; (try dsimp only at hSw); go_simp; (try with_reducible rfl)); rotate_left; (try dsimp only [Act.put]); (try simp only [List.setIfInBounds_toArray, List.set_cons_zero, List.set_cons_succ]))
  (refine wpAnyH_take (i := 1) (v := ?_) rfl (by kernel_rfl) (by kernel_rfl) (by kernel_rfl) (fun _ _ _ h => h) (Or.inl ⟨by rfl, ?_⟩) (by assumption) ?_; rotate_left; (intro wq hSw; (try dsimp only at hSw); go_simp; (try with_reducible rfl)); rotate_left; (try dsimp only [Act.put]); (try simp only [List.setIfInBounds_toArray, List.set_cons_zero, List.set_cons_succ]))
  (refine wpAnyH_take (i := 2) (v := ?_) rfl (by kernel_rfl) (by kernel_rfl) (by kernel_rfl) (fun _ _ _ h => h) (Or.inl ⟨by rfl, ?_⟩) (by assumption) ?_; rotate_left; (intro wq hSw; (try dsimp only at hSw); go_simp; (try with_reducible rfl)); rotate_left; (try dsimp only [Act.put]); (try simp only [List.setIfInBounds_toArray, List.set_cons_zero, List.set_cons_succ]))
  (refine wpAnyH_take (i := 4) (v := ?_) rfl (by kernel_rfl) (by kernel_rfl) (by kernel_rfl) (fun _ _ _ h => h) (Or.inl ⟨by rfl, ?_⟩) (by assumption) ?_; rotate_left; (intro wq hSw; (try dsimp only at hSw); go_simp; (try with_reducible rfl)); rotate_left; (try dsimp only [Act.put]); (try simp only [List.setIfInBounds_toArray, List.set_cons_zero, List.set_cons_succ]))
  (refine wpAnyH_take (i := 5) (v := ?_) rfl (by kernel_rfl) (by kernel_rfl) (by kernel_rfl) (fun _ _ _ h => h) (Or.inl ⟨by rfl, ?_⟩) (by assumption) ?_; rotate_left; (intro wq hSw; (try dsimp only at hSw); go_simp; (try with_reducible rfl)); rotate_left; (try dsimp only [Act.put]); (try simp only [List.setIfInBounds_toArray, List.set_cons_zero, List.set_cons_succ]))
  (refine wpAnyH_take (i := 6) (v := ?_) rfl (by kernel_rfl) (by kernel_rfl) (by kernel_rfl) (fun _ _ _ h => h) (Or.inl ⟨by rfl, ?_⟩) (by assumption) ?_; rotate_left; (intro wq hSw; (try dsimp only at hSw); go_simp; (try with_reducible rfl)); rotate_left; (try dsimp only [Act.put]); (try simp only [List.setIfInBounds_toArray, List.set_cons_zero, List.set_cons_succ]))
  (refine wpAnyH_take (i := 8) (v := ?_) rfl (by kernel_rfl) (by kernel_rfl) (by kernel_rfl) (fun _ _ _ h => h) (Or.inl ⟨by rfl, ?_⟩) (by assumption) ?_; rotate_left; (intro wq hSw; (try dsimp only at hSw); go_simp; (try with_reducible rfl)); rotate_left; (try dsimp only [Act.put]); (try simp only [List.setIfInBounds_toArray, List.set_cons_zero, List.set_cons_succ]))
  (refine wpAnyH_take (i := 9) (v := ?_) rfl (by kernel_rfl) (by kernel_rfl) (by kernel_rfl) (fun _ _ _ h => h) (Or.inl ⟨by rfl, ?_⟩) (by assumption) ?_; rotate_left; (intro wq hSw; (try dsimp only at hSw); go_simp; (try with_reducible rfl)); rotate_left; (try dsimp only [Act.put]); (try simp only [List.setIfInBounds_toArray, List.set_cons_zero, List.set_cons_succ]))
  (refine wpAnyH_take (i := 10) (v := ?_) rfl (by kernel_rfl) (by kernel_rfl) (by kernel_rfl) (fun _ _ _ h => h) (Or.inl ⟨by rfl, ?_⟩) (by assumption) ?_; rotate_left; (intro wq hSw; (try dsimp only at hSw); go_simp; (try with_reducible rfl)); rotate_left; (try dsimp only [Act.put]); (try simp only [List.setIfInBounds_toArray, List.set_cons_zero, List.set_cons_succ]))
  refine wpAnyH_ready (rs := [3]) (by kernel_rfl) (by simp) ?_
  refine AllReadyH.cons rfl (fun K' hK => ?_) AllReadyH.nil
  rw [if_pos (by rfl)]
  go_simp
  go_at_call 38; (refine Calls.mono (Text_mk (T := K) (o := 2) (most := 1024)) ?_); rintro e w3 ⟨v3, rfl, b1, s1⟩
  obtain ⟨f3, c3, rfl⟩ := TextShape.isFunc s1
  have hb : Below w2.heap.size w2 w3 := bl_then (by (with_reducible (repeat' (first | exact Below.refl _ _ | assumption | apply bl_alloc | apply bl_drewN | apply bl_drew | refine bl_set ?_ ?_ _))) <;> (first | done | (simp; done) | (simp; omega) | omega)) b1
  have a3 : w3.cell? ⟨w.heap.size, 0, none⟩ = some (.pointer (some ⟨K, 0, none⟩)) := ((bcell hb).1 _ 0 hz2).trans a2
  have hz3 : w.heap.size < w3.heap.size := Nat.lt_of_lt_of_le hz2 hb.size
  have hB3 : Below w.heap.size w w3 := bl_then hB2 hb
  replace k3 := Lib.hid (KIs.ck _ _ _ _ _ k3.out (CK.of_below hb))
  replace k4 := Lib.hid (KIs.ck _ _ _ _ _ k4.out (CK.of_below hb))
  have k5 : Hid (KIs w.heap.size K w.heap.size (.part .name) undef (.func (.func f3) #[] c3) w3) := ⟨⟨_, _, rfl⟩, TextShape.low s1 (Nat.le_of_lt hz2)⟩
  clear b1 s1
  go_wp2_with fail
  refine hK.out _ _ a3 fun hS1 => ?_
  clear hK K' hS0 hb a2 hz2 hB2
  (try dsimp only [Act.put]); (try simp only [List.setIfInBounds_toArray, List.set_cons_zero, List.set_cons_succ])
  refine wpAnyH_ready (rs := [7]) (by kernel_rfl) (by simp) ?_
  refine AllReadyH.cons rfl (fun K' hK => ?_) AllReadyH.nil
  rw [if_pos (by rfl)]
  go_simp
  go_at_call 38; (refine Calls.mono (Text_mk (T := K) (o := 4) (most := 1024)) ?_); rintro e w4 ⟨v4, rfl, b1, s1⟩
  obtain ⟨f4, c4, rfl⟩ := TextShape.isFunc s1
  have hb : Below w3.heap.size w3 w4 := bl_then (by (with_reducible (repeat' (first | exact Below.refl _ _ | assumption | apply bl_alloc | apply bl_drewN | apply bl_drew | refine bl_set ?_ ?_ _))) <;> (first | done | (simp; done) | (simp; omega) | omega)) b1
  have a4 : w4.cell? ⟨w.heap.size, 0, none⟩ = some (.pointer (some ⟨K, 0, none⟩)) := ((bcell hb).1 _ 0 hz3).trans a3
  have hz4 : w.heap.size < w4.heap.size := Nat.lt_of_lt_of_le hz3 hb.size
  have hB4 : Below w.heap.size w w4 := bl_then hB3 hb
  replace k3 := Lib.hid (KIs.ck _ _ _ _ _ k3.out (CK.of_below hb))
  replace k4 := Lib.hid (KIs.ck _ _ _ _ _ k4.out (CK.of_below hb))
  replace k5 := Lib.hid (KIs.ck _ _ _ _ _ k5.out (CK.of_below hb))
  have k6 : Hid (KIs w.heap.size K w.heap.size (.part .name2) undef (.func (.func f4) #[] c4) w4) := ⟨⟨_, _, rfl⟩, TextShape.low s1 (Nat.le_of_lt hz3)⟩
  clear b1 s1
  go_wp2_with fail
  refine hK.out _ _ a4 fun hS2 => ?_
  clear hK K' hS1 hb a3 hz3 hB3
  (try dsimp only [Act.put]); (try simp only [List.setIfInBounds_toArray, List.set_cons_zero, List.set_cons_succ])
  refine wpAnyH_ready (rs := [11]) (by kernel_rfl) (by simp) ?_
  refine AllReadyH.cons rfl (fun K' hK => ?_) AllReadyH.nil
  rw [if_pos (by rfl)]
  go_simp
  go_at_call 38; (refine Calls.mono (Text_mk (T := K) (o := 28) (most := 1024)) ?_); rintro e w5 ⟨v5, rfl, b1, s1⟩
  obtain ⟨f5, c5, rfl⟩ := TextShape.isFunc s1
  have hb : Below w4.heap.size w4 w5 := bl_then (by (with_reducible (repeat' (first | exact Below.refl _ _ | assumption | apply bl_alloc | apply bl_drewN | apply bl_drew | refine bl_set ?_ ?_ _))) <;> (first | done | (simp; done) | (simp; omega) | omega)) b1
  have a5 : w5.cell? ⟨w.heap.size, 0, none⟩ = some (.pointer (some ⟨K, 0, none⟩)) := ((bcell hb).1 _ 0 hz4).trans a4
  have hz5 : w.heap.size < w5.heap.size := Nat.lt_of_lt_of_le hz4 hb.size
  have hB5 : Below w.heap.size w w5 := bl_then hB4 hb
  replace k3 := Lib.hid (KIs.ck _ _ _ _ _ k3.out (CK.of_below hb))
  replace k4 := Lib.hid (KIs.ck _ _ _ _ _ k4.out (CK.of_below hb))
  replace k5 := Lib.hid (KIs.ck _ _ _ _ _ k5.out (CK.of_below hb))
  replace k6 := Lib.hid (KIs.ck _ _ _ _ _ k6.out (CK.of_below hb))
  have k7 : Hid (KIs w.heap.size K w.heap.size (.part .target) undef (.func (.func f5) #[] c5) w5) := ⟨⟨_, _, rfl⟩, TextShape.low s1 (Nat.le_of_lt hz4)⟩
  clear b1 s1
  go_wp2_with fail
  refine hK.out _ _ a5 fun hS3 => ?_
  clear hK K' hS2 hb a4 hz4 hB4
  (try dsimp only [Act.put]); (try simp only [List.setIfInBounds_toArray, List.set_cons_zero, List.set_cons_succ])
  (refine wpAnyH_take (i := 12) (v := ?_) rfl (by kernel_rfl) (by kernel_rfl) (by kernel_rfl) (fun _ _ _ h => h) (Or.inl ⟨by rfl, ?_⟩) (by assumption) ?_; rotate_left; (intro wq hSw; (try dsimp only at hSw); go_simp; (try with_reducible rfl)); rotate_left; (try dsimp only [Act.put]); (try simp only [List.setIfInBounds_toArray, List.set_cons_zero, List.set_cons_succ])); (try simp only [List.getElem_toArray, List.getElem_cons_succ, List.getElem_cons_zero]); (try dsimp only [Act.put]); (try simp only [List.setIfInBounds_toArray, List.set_cons_zero, List.set_cons_succ])
  (refine wpAnyH_take (i := 13) (v := ?_) rfl (by kernel_rfl) (by kernel_rfl) (by kernel_rfl) (fun _ _ _ h => h) (Or.inl ⟨by rfl, ?_⟩) (by assumption) ?_; rotate_left; (intro wq hSw; (try dsimp only at hSw); go_simp; (try with_reducible rfl)); rotate_left; (try dsimp only [Act.put]); (try simp only [List.setIfInBounds_toArray, List.set_cons_zero, List.set_cons_succ])); (try simp only [List.getElem_toArray, List.getElem_cons_succ, List.getElem_cons_zero]); (try dsimp only [Act.put]); (try simp only [List.setIfInBounds_toArray, List.set_cons_zero, List.set_cons_succ])
  (refine wpAnyH_take (i := 14) (v := ?_) rfl (by kernel_rfl) (by kernel_rfl) (by kernel_rfl) (fun _ _ _ h => h) (Or.inl ⟨by rfl, ?_⟩) (by assumption) ?_; rotate_left; (intro wq hSw; (try dsimp only at hSw); go_simp; (try with_reducible rfl)); rotate_left; (try dsimp only [Act.put]); (try simp only [List.setIfInBounds_toArray, List.set_cons_zero, List.set_cons_succ])); (try simp only [List.getElem_toArray, List.getElem_cons_succ, List.getElem_cons_zero]); (try dsimp only [Act.put]); (try simp only [List.setIfInBounds_toArray, List.set_cons_zero, List.set_cons_succ])
  refine wpAnyH_done (by kernel_rfl) ?_ _
  clear hS3
  go_upto_region 3 with fail
  refine wp_region_held_drew (S := fun wq => wq.cell? ⟨w.heap.size, 0, none⟩ = some (.pointer (some ⟨K, 0, none⟩))) rfl a5 fun hS0 => ?_
  (refine wpAnyH_take (i := 0) (v := ?_) rfl (by kernel_rfl) (by kernel_rfl) (by kernel_rfl) (fun _ _ _ h => h) (Or.inl ⟨by rfl, ?_⟩) (by assumption) ?_; rotate_left; (intro wq hSw; (try dsimp only at hSw); go_simp; (try with_reducible rfl)); rotate_left; (try dsimp only [Act.put]); (try simp only [List.setIfInBounds_toArray, List.set_cons_zero, List.set_cons_succ]))
  (refine wpAnyH_take (i := 1) (v := ?_) rfl (by kernel_rfl) (by kernel_rfl) (by kernel_rfl) (fun _ _ _ h => h) (Or.inl ⟨by rfl, ?_⟩) (by assumption) ?_; rotate_left; (intro wq hSw; (try dsimp only at hSw); go_simp; (try with_reducible rfl)); rotate_left; (try dsimp only [Act.put]); (try simp only [List.setIfInBounds_toArray, List.set_cons_zero, List.set_cons_succ]))
  (refine wpAnyH_take (i := 2) (v := ?_) rfl (by kernel_rfl) (by kernel_rfl) (by kernel_rfl) (fun _ _ _ h => h) (Or.inl ⟨by rfl, ?_⟩) (by assumption) ?_; rotate_left; (intro wq hSw; (try dsimp only at hSw); go_simp; (try with_reducible rfl)); rotate_left; (try dsimp only [Act.put]); (try simp only [List.setIfInBounds_toArray, List.set_cons_zero, List.set_cons_succ]))
  (refine wpAnyH_take (i := 4) (v := ?_) rfl (by kernel_rfl) (by kernel_rfl) (by kernel_rfl) (fun _ _ _ h => h) (Or.inl ⟨by rfl, ?_⟩) (by assumption) ?_; rotate_left; (intro wq hSw; (try dsimp only at hSw); go_simp; (try with_reducible rfl)); rotate_left; (try dsimp only [Act.put]); (try simp only [List.setIfInBounds_toArray, List.set_cons_zero, List.set_cons_succ]))
  (refine wpAnyH_take (i := 5) (v := ?_) rfl (by kernel_rfl) (by kernel_rfl) (by kernel_rfl) (fun _ _ _ h => h) (Or.inl ⟨by rfl, ?_⟩) (by assumption) ?_; rotate_left; (intro wq hSw; (try dsimp only at hSw); go_simp; (try with_reducible rfl)); rotate_left; (try dsimp only [Act.put]); (try simp only [List.setIfInBounds_toArray, List.set_cons_zero, List.set_cons_succ]))
  (refine wpAnyH_take (i := 6) (v := ?_) rfl (by kernel_rfl) (by kernel_rfl) (by kernel_rfl) (fun _ _ _ h => h) (Or.inl ⟨by rfl, ?_⟩) (by assumption) ?_; rotate_left; (intro wq hSw; (try dsimp only at hSw); go_simp; (try with_reducible rfl)); rotate_left; (try dsimp only [Act.put]); (try simp only [List.setIfInBounds_toArray, List.set_cons_zero, List.set_cons_succ]))
  (refine wpAnyH_take (i := 8) (v := ?_) rfl (by kernel_rfl) (by kernel_rfl) (by kernel_rfl) (fun _ _ _ h => h) (Or.inl ⟨by rfl, ?_⟩) (by assumption) ?_; rotate_left; (intro wq hSw; (try dsimp only at hSw); go_simp; (try with_reducible rfl)); rotate_left; (try dsimp only [Act.put]); (try simp only [List.setIfInBounds_toArray, List.set_cons_zero, List.set_cons_succ]))
  (refine wpAnyH_take (i := 9) (v := ?_) rfl (by kernel_rfl) (by kernel_rfl) (by kernel_rfl) (fun _ _ _ h => h) (Or.inl ⟨by rfl, ?_⟩) (by assumption) ?_; rotate_left; (intro wq hSw; (try dsimp only at hSw); go_simp; (try with_reducible rfl)); rotate_left; (try dsimp only [Act.put]); (try simp only [List.setIfInBounds_toArray, List.set_cons_zero, List.set_cons_succ]))
  (refine wpAnyH_take (i := 10) (v := ?_) rfl (by kernel_rfl) (by kernel_rfl) (by kernel_rfl) (fun _ _ _ h => h) (Or.inl ⟨by rfl, ?_⟩) (by assumption) ?_; rotate_left; (intro wq hSw; (try dsimp only at hSw); go_simp; (try with_reducible rfl)); rotate_left; (try dsimp only [Act.put]); (try simp only [List.setIfInBounds_toArray, List.set_cons_zero, List.set_cons_succ]))
  (refine wpAnyH_take (i := 12) (v := ?_) rfl (by kernel_rfl) (by kernel_rfl) (by kernel_rfl) (fun _ _ _ h => h) (Or.inl ⟨by rfl, ?_⟩) (by assumption) ?_; rotate_left; (intro wq hSw; (try dsimp only at hSw); go_simp; (try with_reducible rfl)); rotate_left; (try dsimp only [Act.put]); (try simp only [List.setIfInBounds_toArray, List.set_cons_zero, List.set_cons_succ]))
  (refine wpAnyH_take (i := 13) (v := ?_) rfl (by kernel_rfl) (by kernel_rfl) (by kernel_rfl) (fun _ _ _ h => h) (Or.inl ⟨by rfl, ?_⟩) (by assumption) ?_; rotate_left; (intro wq hSw; (try dsimp only at hSw); go_simp; (try with_reducible rfl)); rotate_left; (try dsimp only [Act.put]); (try simp only [List.setIfInBounds_toArray, List.set_cons_zero, List.set_cons_succ]))
  (refine wpAnyH_take (i := 14) (v := ?_) rfl (by kernel_rfl) (by kernel_rfl) (by kernel_rfl) (fun _ _ _ h => h) (Or.inl ⟨by rfl, ?_⟩) (by assumption) ?_; rotate_left; (intro wq hSw; (try dsimp only at hSw); go_simp; (try with_reducible rfl)); rotate_left; (try dsimp only [Act.put]); (try simp only [List.setIfInBounds_toArray, List.set_cons_zero, List.set_cons_succ]))
  refine wpAnyH_ready (rs := [3]) (by kernel_rfl) (by simp) ?_
  refine AllReadyH.cons rfl (fun K' hK => ?_) AllReadyH.nil
  rw [if_pos (by rfl)]
  go_simp
  go_at_call 39; (refine Calls.mono (Set_mk (T := K) (o := 5)) ?_); rintro e w6 ⟨v6, rfl, b1, s1⟩
  obtain ⟨f6, c6, rfl⟩ := OfShape.isFunc s1
  have hb : Below w5.heap.size w5 w6 := bl_then (by (with_reducible (repeat' (first | exact Below.refl _ _ | assumption | apply bl_alloc | apply bl_drewN | apply bl_drew | refine bl_set ?_ ?_ _))) <;> (first | done | (simp; done) | (simp; omega) | omega)) b1
  have a6 : w6.cell? ⟨w.heap.size, 0, none⟩ = some (.pointer (some ⟨K, 0, none⟩)) := ((bcell hb).1 _ 0 hz5).trans a5
  have hz6 : w.heap.size < w6.heap.size := Nat.lt_of_lt_of_le hz5 hb.size
  have hB6 : Below w.heap.size w w6 := bl_then hB5 hb
  replace k3 := Lib.hid (KIs.ck _ _ _ _ _ k3.out (CK.of_below hb))
  replace k4 := Lib.hid (KIs.ck _ _ _ _ _ k4.out (CK.of_below hb))
  replace k5 := Lib.hid (KIs.ck _ _ _ _ _ k5.out (CK.of_below hb))
  replace k6 := Lib.hid (KIs.ck _ _ _ _ _ k6.out (CK.of_below hb))
  replace k7 := Lib.hid (KIs.ck _ _ _ _ _ k7.out (CK.of_below hb))
  have k8 : Hid (KIs w.heap.size K w.heap.size (.part .set) undef (.func (.func f6) #[] c6) w6) := ⟨⟨_, _, rfl⟩, OfShape.low s1 (Nat.le_of_lt hz5)⟩
  clear b1 s1
  go_wp2_with fail
  refine hK.out _ _ a6 fun hS1 => ?_
  clear hK K' hS0 hb a5 hz5 hB5
  (try dsimp only [Act.put]); (try simp only [List.setIfInBounds_toArray, List.set_cons_zero, List.set_cons_succ])
  refine wpAnyH_ready (rs := [7]) (by kernel_rfl) (by simp) ?_
  refine AllReadyH.cons rfl (fun K' hK => ?_) AllReadyH.nil
  rw [if_pos (by rfl)]
  go_simp
  go_at_call 40; (refine Calls.mono (Long_mk (T := K) (o := 23)) ?_); rintro e w7 ⟨v7, rfl, b1, s1⟩
  obtain ⟨f7, c7, rfl⟩ := ShortShape.isFunc s1
  have hb : Below w6.heap.size w6 w7 := bl_then (by (with_reducible (repeat' (first | exact Below.refl _ _ | assumption | apply bl_alloc | apply bl_drewN | apply bl_drew | refine bl_set ?_ ?_ _))) <;> (first | done | (simp; done) | (simp; omega) | omega)) b1
  have a7 : w7.cell? ⟨w.heap.size, 0, none⟩ = some (.pointer (some ⟨K, 0, none⟩)) := ((bcell hb).1 _ 0 hz6).trans a6
  have hz7 : w.heap.size < w7.heap.size := Nat.lt_of_lt_of_le hz6 hb.size
  have hB7 : Below w.heap.size w w7 := bl_then hB6 hb
  replace k3 := Lib.hid (KIs.ck _ _ _ _ _ k3.out (CK.of_below hb))
  replace k4 := Lib.hid (KIs.ck _ _ _ _ _ k4.out (CK.of_below hb))
  replace k5 := Lib.hid (KIs.ck _ _ _ _ _ k5.out (CK.of_below hb))
  replace k6 := Lib.hid (KIs.ck _ _ _ _ _ k6.out (CK.of_below hb))
  replace k7 := Lib.hid (KIs.ck _ _ _ _ _ k7.out (CK.of_below hb))
  replace k8 := Lib.hid (KIs.ck _ _ _ _ _ k8.out (CK.of_below hb))
  have k9 : Hid (KIs w.heap.size K w.heap.size (.part .offset) undef (.func (.func f7) #[] c7) w7) := ⟨⟨_, _, rfl⟩, ShortShape.low s1 (Nat.le_of_lt hz6)⟩
  clear b1 s1
  go_wp2_with fail
  refine hK.out _ _ a7 fun hS2 => ?_
  clear hK K' hS1 hb a6 hz6 hB6
  (try dsimp only [Act.put]); (try simp only [List.setIfInBounds_toArray, List.set_cons_zero, List.set_cons_succ])
  refine wpAnyH_ready (rs := [11]) (by kernel_rfl) (by simp) ?_
  refine AllReadyH.cons rfl (fun K' hK => ?_) AllReadyH.nil
  rw [if_pos (by rfl)]
  go_simp
  go_at_call 41; (refine Calls.mono (Number_mk (T := K) (o := 24)) ?_); rintro e w8 ⟨v8, rfl, b1, s1⟩
  obtain ⟨f8, c8, rfl⟩ := ShortShape.isFunc s1
  have hb : Below w7.heap.size w7 w8 := bl_then (by (with_reducible (repeat' (first | exact Below.refl _ _ | assumption | apply bl_alloc | apply bl_drewN | apply bl_drew | refine bl_set ?_ ?_ _))) <;> (first | done | (simp; done) | (simp; omega) | omega)) b1
  have a8 : w8.cell? ⟨w.heap.size, 0, none⟩ = some (.pointer (some ⟨K, 0, none⟩)) := ((bcell hb).1 _ 0 hz7).trans a7
  have hz8 : w.heap.size < w8.heap.size := Nat.lt_of_lt_of_le hz7 hb.size
  have hB8 : Below w.heap.size w w8 := bl_then hB7 hb
  replace k3 := Lib.hid (KIs.ck _ _ _ _ _ k3.out (CK.of_below hb))
  replace k4 := Lib.hid (KIs.ck _ _ _ _ _ k4.out (CK.of_below hb))
  replace k5 := Lib.hid (KIs.ck _ _ _ _ _ k5.out (CK.of_below hb))
  replace k6 := Lib.hid (KIs.ck _ _ _ _ _ k6.out (CK.of_below hb))
  replace k7 := Lib.hid (KIs.ck _ _ _ _ _ k7.out (CK.of_below hb))
  replace k8 := Lib.hid (KIs.ck _ _ _ _ _ k8.out (CK.of_below hb))
  replace k9 := Lib.hid (KIs.ck _ _ _ _ _ k9.out (CK.of_below hb))
  have k10 : Hid (KIs w.heap.size K w.heap.size (.part .count) undef (.func (.func f8) #[] c8) w8) := ⟨⟨_, _, rfl⟩, ShortShape.low s1 (Nat.le_of_lt hz7)⟩
  clear b1 s1
  go_wp2_with fail
  refine hK.out _ _ a8 fun hS3 => ?_
  clear hK K' hS2 hb a7 hz7 hB7
  (try dsimp only [Act.put]); (try simp only [List.setIfInBounds_toArray, List.set_cons_zero, List.set_cons_succ])
  refine wpAnyH_ready (rs := [15]) (by kernel_rfl) (by simp) ?_
  refine AllReadyH.cons rfl (fun K' hK => ?_) AllReadyH.nil
  rw [if_pos (by rfl)]
  go_simp
  go_at_call 42; (refine Calls.mono (Verf_mk (T := K) (o := 31)) ?_); rintro e w9 ⟨v9, rfl, b1, s1⟩
  obtain ⟨f9, c9, rfl⟩ := OfShape.isFunc s1
  have hb : Below w8.heap.size w8 w9 := bl_then (by (with_reducible (repeat' (first | exact Below.refl _ _ | assumption | apply bl_alloc | apply bl_drewN | apply bl_drew | refine bl_set ?_ ?_ _))) <;> (first | done | (simp; done) | (simp; omega) | omega)) b1
  have a9 : w9.cell? ⟨w.heap.size, 0, none⟩ = some (.pointer (some ⟨K, 0, none⟩)) := ((bcell hb).1 _ 0 hz8).trans a8
  have hz9 : w.heap.size < w9.heap.size := Nat.lt_of_lt_of_le hz8 hb.size
  have hB9 : Below w.heap.size w w9 := bl_then hB8 hb
  replace k3 := Lib.hid (KIs.ck _ _ _ _ _ k3.out (CK.of_below hb))
  replace k4 := Lib.hid (KIs.ck _ _ _ _ _ k4.out (CK.of_below hb))
  replace k5 := Lib.hid (KIs.ck _ _ _ _ _ k5.out (CK.of_below hb))
  replace k6 := Lib.hid (KIs.ck _ _ _ _ _ k6.out (CK.of_below hb))
  replace k7 := Lib.hid (KIs.ck _ _ _ _ _ k7.out (CK.of_below hb))
  replace k8 := Lib.hid (KIs.ck _ _ _ _ _ k8.out (CK.of_below hb))
  replace k9 := Lib.hid (KIs.ck _ _ _ _ _ k9.out (CK.of_below hb))
  replace k10 := Lib.hid (KIs.ck _ _ _ _ _ k10.out (CK.of_below hb))
  have k11 : Hid (KIs w.heap.size K w.heap.size (.part .verf) undef (.func (.func f9) #[] c9) w9) := ⟨⟨_, _, rfl⟩, OfShape.low s1 (Nat.le_of_lt hz8)⟩
  clear b1 s1
  go_wp2_with fail
  refine hK.out _ _ a9 fun hS4 => ?_
  clear hK K' hS3 hb a8 hz8 hB8
  (try dsimp only [Act.put]); (try simp only [List.setIfInBounds_toArray, List.set_cons_zero, List.set_cons_succ])
  (refine wpAnyH_take (i := 16) (v := ?_) rfl (by kernel_rfl) (by kernel_rfl) (by kernel_rfl) (fun _ _ _ h => h) (Or.inl ⟨by rfl, ?_⟩) (by assumption) ?_; rotate_left; (intro wq hSw; (try dsimp only at hSw); go_simp; (try with_reducible rfl)); rotate_left; (try dsimp only [Act.put]); (try simp only [List.setIfInBounds_toArray, List.set_cons_zero, List.set_cons_succ])); (try simp only [List.getElem_toArray, List.getElem_cons_succ, List.getElem_cons_zero]); (try dsimp only [Act.put]); (try simp only [List.setIfInBounds_toArray, List.set_cons_zero, List.set_cons_succ])
  (refine wpAnyH_take (i := 17) (v := ?_) rfl (by kernel_rfl) (by kernel_rfl) (by kernel_rfl) (fun _ _ _ h => h) (Or.inl ⟨by rfl, ?_⟩) (by assumption) ?_; rotate_left; (intro wq hSw; (try dsimp only at hSw); go_simp; (try with_reducible rfl)); rotate_left; (try dsimp only [Act.put]); (try simp only [List.setIfInBounds_toArray, List.set_cons_zero, List.set_cons_succ])); (try simp only [List.getElem_toArray, List.getElem_cons_succ, List.getElem_cons_zero]); (try dsimp only [Act.put]); (try simp only [List.setIfInBounds_toArray, List.set_cons_zero, List.set_cons_succ])
  (refine wpAnyH_take (i := 18) (v := ?_) rfl (by kernel_rfl) (by kernel_rfl) (by kernel_rfl) (fun _ _ _ h => h) (Or.inl ⟨by rfl, ?_⟩) (by assumption) ?_; rotate_left; (intro wq hSw; (try dsimp only at hSw); go_simp; (try with_reducible rfl)); rotate_left; (try dsimp only [Act.put]); (try simp only [List.setIfInBounds_toArray, List.set_cons_zero, List.set_cons_succ])); (try simp only [List.getElem_toArray, List.getElem_cons_succ, List.getElem_cons_zero]); (try dsimp only [Act.put]); (try simp only [List.setIfInBounds_toArray, List.set_cons_zero, List.set_cons_succ])
  (refine wpAnyH_take (i := 19) (v := ?_) rfl (by kernel_rfl) (by kernel_rfl) (by kernel_rfl) (fun _ _ _ h => h) (Or.inl ⟨by rfl, ?_⟩) (by assumption) ?_; rotate_left; (intro wq hSw; (try dsimp only at hSw); go_simp; (try with_reducible rfl)); rotate_left; (try dsimp only [Act.put]); (try simp only [List.setIfInBounds_toArray, List.set_cons_zero, List.set_cons_succ])); (try simp only [List.getElem_toArray, List.getElem_cons_succ, List.getElem_cons_zero]); (try dsimp only [Act.put]); (try simp only [List.setIfInBounds_toArray, List.set_cons_zero, List.set_cons_succ])
  refine wpAnyH_done (by kernel_rfl) ?_ _
  clear hS4
  go_wp2_with fail
  go_at_call 40; (refine Calls.mono (Long_mk (T := K) (o := 39)) ?_); rintro e w10 ⟨v10, rfl, b1, s1⟩
  obtain ⟨f10, c10, rfl⟩ := ShortShape.isFunc s1
  have r13 := RowIs.new (w := w9) (lo := w.heap.size) (K := K) (ps := [(.func (.func f1) #[] c1, .h)]) (t := 87) (fun q hq => by
    simp only [List.mem_cons, List.not_mem_nil, or_false] at hq
    subst hq
    exact k3.out.2) (Nat.le_of_ble_eq_true rfl) (Nat.le_of_lt hz9)
  have r14 := RowIs.new (w := w9.alloc (.cells #[.func (.func f1) #[] c1] 87)) (lo := w.heap.size) (K := K) (ps := [(.func (.func f1) #[] c1, .h), (.func (.func f3) #[] c3, .name)]) (t := 87) (fun q hq => by
    simp only [List.mem_cons, List.not_mem_nil, or_false] at hq
    rcases hq with rfl | rfl
    · exact PkShape.ck k3.out.2 (CK.of_below (bl_alloc (Below.refl _ _) _))
    · exact PkShape.ck k5.out.2 (CK.of_below (bl_alloc (Below.refl _ _) _))) (Nat.le_of_ble_eq_true rfl) (by simp; omega)
  have e14 : (w9.alloc (.cells #[.func (.func f1) #[] c1] 87)).heap.size = w9.heap.size + 1 := by simp
  rw [e14] at r14
  have r13 := (RowIs.ck r13 (CK.of_below (bl_alloc (Below.refl _ _) (.cells #[.func (.func f1) #[] c1, .func (.func f3) #[] c3] 87)))).ck (CK.of_below b1)
  have r14 := r14.ck (CK.of_below b1)
  have hb : Below w9.heap.size w9 w10 := bl_then (by (with_reducible (repeat' (first | exact Below.refl _ _ | assumption | apply bl_alloc | apply bl_drewN | apply bl_drew | refine bl_set ?_ ?_ _))) <;> (first | done | (simp; done) | (simp; omega) | omega)) b1
  have a10 : w10.cell? ⟨w.heap.size, 0, none⟩ = some (.pointer (some ⟨K, 0, none⟩)) := ((bcell hb).1 _ 0 hz9).trans a9
  have hz10 : w.heap.size < w10.heap.size := Nat.lt_of_lt_of_le hz9 hb.size
  have hB10 : Below w.heap.size w w10 := bl_then hB9 hb
  replace k3 := Lib.hid (KIs.ck _ _ _ _ _ k3.out (CK.of_below hb))
  replace k4 := Lib.hid (KIs.ck _ _ _ _ _ k4.out (CK.of_below hb))
  replace k5 := Lib.hid (KIs.ck _ _ _ _ _ k5.out (CK.of_below hb))
  replace k6 := Lib.hid (KIs.ck _ _ _ _ _ k6.out (CK.of_below hb))
  replace k7 := Lib.hid (KIs.ck _ _ _ _ _ k7.out (CK.of_below hb))
  replace k8 := Lib.hid (KIs.ck _ _ _ _ _ k8.out (CK.of_below hb))
  replace k9 := Lib.hid (KIs.ck _ _ _ _ _ k9.out (CK.of_below hb))
  replace k10 := Lib.hid (KIs.ck _ _ _ _ _ k10.out (CK.of_below hb))
  replace k11 := Lib.hid (KIs.ck _ _ _ _ _ k11.out (CK.of_below hb))
  have hs10 : w9.heap.size + 1 + 1 ≤ w10.heap.size := by have := b1.size; simpa using this
  have kc : Hid (KIs w.heap.size K w.heap.size (.part .cookie) undef (.func (.func f10) #[] c10) w10) := ⟨⟨_, _, rfl⟩, ShortShape.low s1 (by simp; omega)⟩
  have k13 := Lib.hid r13
  have k14 := Lib.hid r14
  clear b1 s1 hb r13 r14 a9 hz9 hB9
  go_upto_region 6 with fail
  rename_i Kx hKx
  have r15 := FullIs.new (w := w10) (lo := w.heap.size) (K := K) (ps := [(.func (.func f1) #[] c1, .h), (.func (.func f10) #[] c10, .cookie), (.func (.func f9) #[] c9, .verf), (.func (.func f8) #[] c8, .count)]) (t := 87) (fun q hq => by
    simp only [List.mem_cons, List.not_mem_nil, or_false] at hq
    rcases hq with rfl | rfl | rfl | rfl
    · exact k3.out.2
    · exact kc.out.2
    · exact k11.out.2
    · exact k10.out.2) (Nat.le_of_ble_eq_true rfl) (Nat.le_of_lt hz10)
  have hck := CK.of_below (bl_alloc (Below.refl w10.heap.size w10) (.cells #[.func (.func f1) #[] c1, .func (.func f10) #[] c10, .func (.func f9) #[] c9, .func (.func f8) #[] c8] 87))
  have hfin : ∀ wx : World, CK wx wx.drew := fun wx => CK.of_below (bl_drew (Below.refl _ _))
  refine wp_ops (ops' := opsR) (by kernel_rfl) ?_
  refine wp_map_region (Kd := Ka) (w00 := w) (KIs w.heap.size K w.heap.size) (kT K w.heap.size) (fun k => .row (rowsOf k)) tT iM iniR nN 66 opsR_back opsR_dsts opsR_guards opsR_need opsR_map (by rw [opsR_size]; omega) (by kernel_rfl) opsR_ini (fun k mv v wa wb => KIs.ck k mv v wa wb) (fun t mv mv' v wx h hk => kT_map K _ t h mv mv' v _ wx hk) (fun v wx => rfl) (fun k mv mv' v wx h => h) ?_ ?_ ?_ ?_ ?_ ?_
  · exact bl_drew (bl_alloc hB10 _)
  · intro t ht mv
    simp only [iniR, List.mem_cons, List.not_mem_nil, or_false] at ht
    rcases ht with rfl | rfl | rfl | rfl | rfl | rfl | rfl | rfl | rfl | rfl | rfl | rfl | rfl | rfl
    · exact ⟨rfl, ⟨Nat.le_refl _, by simp; omega, hck.cell _ _ a10⟩⟩
    · exact KIs.ck _ _ _ _ _ (KIs.ck _ _ _ _ _ k3.out hck) (hfin _)
    · exact KIs.ck _ _ _ _ _ (KIs.ck _ _ _ _ _ k4.out hck) (hfin _)
    · exact KIs.ck _ _ _ _ _ (KIs.ck _ _ _ _ _ k5.out hck) (hfin _)
    · exact KIs.ck _ _ _ _ _ (KIs.ck _ _ _ _ _ k6.out hck) (hfin _)
    · exact KIs.ck _ _ _ _ _ (KIs.ck _ _ _ _ _ k7.out hck) (hfin _)
    · exact KIs.ck _ _ _ _ _ (KIs.ck _ _ _ _ _ k8.out hck) (hfin _)
    · exact KIs.ck _ _ _ _ _ (KIs.ck _ _ _ _ _ k9.out hck) (hfin _)
    · exact KIs.ck _ _ _ _ _ (KIs.ck _ _ _ _ _ k10.out hck) (hfin _)
    · exact KIs.ck _ _ _ _ _ (KIs.ck _ _ _ _ _ k11.out hck) (hfin _)
    · exact rfl
    · exact (k13.out.ck hck).ck (hfin _)
    · exact (k14.out.ck hck).ck (hfin _)
    · exact r15.ck (hfin _)
  · intro o ho
    exact ⟨dstIs ho (by kernel_rfl), _, opOf (x := .makeMap 64 none) ho (by kernel_rfl)⟩
  · intro i o k ho hty
    have hi : i < 136 := by have := (Array.getElem?_eq_some_iff.1 ho).1; rw [opsR_size] at this; exact this
    exact rins_all i k hi hty o ho
  · intro i o ho hty
    have hi : i < 136 := by have := (Array.getElem?_eq_some_iff.1 ho).1; rw [opsR_size] at this; exact this
    exact rob_all i hi hty o ho
  · intro m Lx a wx hI hall
    obtain ⟨M, D, hM, hMl, hown, hmap, hkey⟩ := hI.mp (hall 0 (by rw [opsR_size]; omega))
    have hres := hI.val 135 2 (hall 135 (by rw [opsR_size]; omega)) (by kernel_rfl)
    have hres : a.tmps.getD 2 undef = a.tmps.getD 66 undef := hres
    have hdf := hI.df
    have hpost : bodyPost Tryz.prog Tryz.f23 (fun e w' => ∃ M, e = .returned (.map (some M)) ∧ Below w.heap.size w w' ∧ RowsMap w' w.heap.size K M) .ret a wx := by
      refine bodyPost_ret (results_tmp rfl _ _ _) hdf ⟨M, by rw [hres, hM], hI.blw, D, m, hown, fun p hp => ?_, fun p hp hp2 => ?_⟩
      · rcases hkey p (by omega) with ⟨_, h2, v, h3, h4⟩ | ⟨h1, _⟩
        · exact ⟨h2, v, h3, h4⟩
        · obtain ⟨i, hi, hti⟩ := keyT p hp
          exact absurd (hall i (by rw [opsR_size]; exact hi)) (h1 i hti)
      · rcases hkey p hp2 with ⟨⟨i, hti, _⟩, _⟩ | ⟨_, h2⟩
        · exact absurd hti (fun h => keyN p hp i h)
        · exact h2
    exact hKx a wx (wp_ret hpost)
end Go.Proofs.YtgmhapjidbdhnaaGreat

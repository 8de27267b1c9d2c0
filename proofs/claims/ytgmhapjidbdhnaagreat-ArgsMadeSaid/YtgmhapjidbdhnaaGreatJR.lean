/- args.rows: a few more operations; the closure that asks for kinds. -/
import Derived.WalkKit
import Derived.Deep.RegionHeld
import Derived.Test.YtgmhapjidbdhnaaGreatJQ
import Derived.Laws.EntriesVeiled
set_option linter.unusedVariables false
set_option linter.unusedSimpArgs false
namespace Go.Proofs.YtgmhapjidbdhnaaGreat
open Go.RowKit
/-- The edges of a region lead back. -/
def edgesBack (ops : Array Oper) : Bool := (List.range ops.size).all fun i => ((ops[i]?).map fun o => o.after.all fun e => !Region.binds .any e || decide (e.on < i)).getD true
theorem edgesBack_spec {ops : Array Oper} (h : edgesBack ops = true) {i : Nat} {o : Oper} (ho : ops[i]? = some o) : ∀ e ∈ o.after, Region.binds .any e = true → e.on < i := by
  have hi : i < ops.size := (Array.getElem?_eq_some_iff.1 ho).1
  have := List.all_eq_true.1 h i (List.mem_range.2 hi)
  rw [ho] at this
  simp only [Option.map_some, Option.getD_some, Array.all_eq_true_iff_forall_mem] at this
  intro e he hb
  have := this e he
  simpa [hb] using this
theorem wp_region_inv {P : Program} {ops : Array Oper} {Q : Exit → Act → World → Prop} {a : Act} {w : World} {id : Nat} (hm : P.follows .mixedOrders = true) (he : edgesBack ops = true)
    (Inv : Nat → (Nat → Prop) → Act → World → Prop) (h0 : Inv 0 (fun _ => False) a w.drew)
    (hstep : ∀ m L a w i o, m < ops.size → Inv m L a w → ops[i]? = some o → ¬ L i → (∀ e ∈ o.after, Region.binds .any e = true → L e.on) →
      Region.wanted o (yielded ops a.tmps) = true ∧ Oper.wp P o a w (fun a' w' => Inv (m + 1) (fun j => L j ∨ j = i) a' w') Q)
    (hend : ∀ m L a w, Inv m L a w → (∀ i, i < ops.size → L i) → Q .normal a w) : (Code.region id ops true).wp P Q a w := by
  have key : ∀ (fuel : Nat) (listed : Array Bool) (a : Act) (w : World) (m : Nat) (L : Nat → Prop), listed.size = ops.size → (∀ i, L i ↔ listed[i]? = some true) → listed.toList.countP (· == false) = fuel → m + fuel = ops.size → Inv m L a w →
      wpAnyH P .any ops Q (fun _ => True) fuel listed a w := by
    intro fuel
    induction fuel with
    | zero =>
      intro listed a w m L hsz hL hc hmf hI
      have hall : ∀ i, i < ops.size → listed[i]? = some true := fun i hi => by
        have hi' : i < listed.size := by omega
        rw [Array.getElem?_eq_getElem hi']
        have hn : ¬ (listed[i] == false) = true := List.countP_eq_zero.1 hc _ (by rw [← Array.getElem_toList]; exact List.getElem_mem _)
        simpa using hn
      refine ⟨?_, hend m L a w hI fun i hi => (hL i).2 (hall i hi)⟩
      cases hr : Region.ready .any ops listed with
      | nil => rfl
      | cons j l =>
        have hj : j ∈ Region.ready .any ops listed := by rw [hr]; exact List.mem_cons_self ..
        obtain ⟨h1, o, ho, _⟩ := mem_ready.1 hj
        have hjs := (Array.getElem?_eq_some_iff.1 ho).1
        rw [Array.getD_eq_getD_getElem?, hall j hjs] at h1
        cases h1
    | succ fuel ih =>
      intro listed a w m L hsz hL hc hmf hI
      have hex : ∃ i, i < ops.size ∧ listed[i]? = some false := by
        have : 0 < listed.toList.countP (· == false) := by omega
        obtain ⟨b, hb, hbf⟩ := List.countP_pos_iff.1 this
        obtain ⟨i, hi, hib⟩ := List.getElem_of_mem hb
        have hi' : i < listed.size := by simpa using hi
        refine ⟨i, by omega, ?_⟩
        rw [Array.getElem?_eq_getElem hi']
        have : listed[i] = b := by rw [← hib]; simp
        rw [this]; simpa using hbf
      refine ⟨fun hr => ?_, fun i hi => ?_⟩
      · exfalso
        have hmin : ∃ i, (i < ops.size ∧ listed[i]? = some false) ∧ ∀ j, j < i → ¬ (j < ops.size ∧ listed[j]? = some false) := by
          obtain ⟨i, hi⟩ := hex
          induction i using Nat.strongRecOn with
          | _ i ihi =>
            by_cases h : ∃ j, j < i ∧ (j < ops.size ∧ listed[j]? = some false)
            · obtain ⟨j, hj, hj2⟩ := h
              exact ihi j hj hj2
            · exact ⟨i, hi, fun j hj hj2 => h ⟨j, hj, hj2⟩⟩
        obtain ⟨i, ⟨hi1, hi2⟩, hless⟩ := hmin
        have ho : ops[i]? = some ops[i] := Array.getElem?_eq_getElem hi1
        have : i ∈ Region.ready .any ops listed := mem_ready.2 ⟨by rw [Array.getD_eq_getD_getElem?, hi2]; rfl, ops[i], ho, fun e hem hb => by
          have hlt := edgesBack_spec he ho e hem hb
          have hes : e.on < listed.size := by omega
          rw [Array.getD_eq_getD_getElem?, Array.getElem?_eq_getElem hes]
          have hn := hless e.on hlt
          rw [Array.getElem?_eq_getElem hes] at hn
          cases hb2 : listed[e.on] with
          | true => rfl
          | false => exact absurd ⟨by omega, by rw [hb2]⟩ hn⟩
        rw [hr] at this
        cases this
      · obtain ⟨h1, o, ho, hed⟩ := mem_ready.1 hi
        have his := (Array.getElem?_eq_some_iff.1 ho).1
        have his' : i < listed.size := by omega
        have hif : listed[i] = false := by
          rw [Array.getD_eq_getD_getElem?, Array.getElem?_eq_getElem his'] at h1
          simpa using h1
        have hnL : ¬ L i := fun h => by
          have := (hL i).1 h
          rw [Array.getElem?_eq_getElem his', hif] at this
          cases this
        obtain ⟨hw, hwp⟩ := hstep m L a w i o (by omega) hI ho hnL (fun e hem hb => (hL e.on).2 (by
          have h2 := hed e hem hb
          rw [Array.getD_eq_getD_getElem?] at h2
          cases hg : listed[e.on]? with
          | none => rw [hg] at h2; cases h2
          | some b => rw [hg] at h2; simp at h2; rw [h2]))
        have hop : wpOp P ops Q i (fun a' w' => Inv (m + 1) (fun j => L j ∨ j = i) a' w') a w := by
          unfold wpOp
          rw [ho]
          simp only [hw, if_true]
          exact .inl hwp
        refine wpOp_mono (fun a' w' hI' => ⟨trivial, ih (listed.setIfInBounds i true) a' w' (m + 1) _ (by simp [hsz]) (fun j => ?_) ?_ (by omega) hI'⟩) hop
        · rw [Array.getElem?_setIfInBounds]
          by_cases hji : i = j
          · subst hji
            simp [his']
          · rw [if_neg hji, hL j]
            exact ⟨fun h => h.elim (fun h => h) (fun h => absurd h.symm hji), .inl⟩
        · have e1 : (listed.setIfInBounds i true).toList = listed.toList.set i true := by simp
          rw [e1, List.countP_set (by simpa using his')]
          have e2 : listed.toList[i]'(by simpa using his') = false := by rw [← hif]; simp
          simp [e2]
          have := hc
          simp at this
          omega
  refine wp_region_held (S := fun _ => True) hm ?_
  exact key ops.size _ a _ 0 (fun _ => False) (by simp) (fun i => by
    constructor
    · intro h; exact h.elim
    · intro h
      rw [Array.getElem?_replicate] at h
      split at h <;> cases h) (by simp [List.countP_replicate]) (by omega) h0
end Go.Proofs.YtgmhapjidbdhnaaGreat
namespace Go.Proofs.YtgmhapjidbdhnaaGreat
open Go.RowKit
/-- What stood in cells stands there still. -/
structure CK (w w' : World) : Prop where
  size : w.heap.size ≤ w'.heap.size
  cell : ∀ a v, w.cell? a = some v → w'.cell? a = some v
theorem cell_lt {w : World} {a : Addr} {v : Value} (h : w.cell? a = some v) : a.block < w.heap.size := by
  rcases Nat.lt_or_ge a.block w.heap.size with hl | hl
  · exact hl
  · unfold World.cell? at h
    rw [Array.getElem?_eq_none hl] at h
    cases h
theorem CK.of_below {w w' : World} (h : Below w.heap.size w w') : CK w w' := ⟨h.size, fun a v hv => (World.cell?_of_block (h.block a.block (cell_lt hv))).trans hv⟩
theorem CK.trans {w w1 w2 : World} (h : CK w w1) (k : CK w1 w2) : CK w w2 := ⟨Nat.le_trans h.size k.size, fun a v hv => k.cell a v (h.cell a v hv)⟩
theorem CK.of_map {w w' : World} {M n : Nat} {D : DataW Value} (hm : MapAt w M n D) (ho : Only (· = M) w w') : CK w w' := ⟨ho.size, fun a v hv => by
  refine (ho.cell (cell_lt hv) (fun e => ?_)).trans hv
  obtain ⟨es, clock, hb, _⟩ := hm
  unfold World.cell? at hv
  rw [e, hb] at hv
  cases hv⟩
theorem arr_any {α : Type} {ar : Array α} {p : α → Bool} (h : ar.any p = true) : ∃ x, x ∈ ar ∧ p x = true := by
  obtain ⟨i, hi, hp⟩ := Array.any_eq_true.1 h
  exact ⟨ar[i], Array.getElem_mem hi, hp⟩
def dstOf (ops : Array Oper) (i : Nat) : Option Nat := (ops[i]?).bind (·.dst)
/-- Each operation's slot is its own. -/
def dstsOk (ops : Array Oper) (n : Nat) : Bool := (List.range ops.size).all fun i => match dstOf ops i with | none => true | some t => decide (t < n) && (List.range ops.size).all fun j => decide (j = i) || decide (dstOf ops j ≠ some t)
theorem dstsOk_lt {ops : Array Oper} {n : Nat} (h : dstsOk ops n = true) {i t : Nat} (hi : i < ops.size) (hd : dstOf ops i = some t) : t < n := by
  have := List.all_eq_true.1 h i (List.mem_range.2 hi)
  rw [hd] at this
  simp only [Bool.and_eq_true, decide_eq_true_eq] at this
  exact this.1
theorem dstsOk_ne {ops : Array Oper} {n : Nat} (h : dstsOk ops n = true) {i j t : Nat} (hi : i < ops.size) (hj : j < ops.size) (hd : dstOf ops i = some t) (hne : j ≠ i) : dstOf ops j ≠ some t := by
  have := List.all_eq_true.1 h i (List.mem_range.2 hi)
  rw [hd] at this
  simp only [Bool.and_eq_true, decide_eq_true_eq] at this
  have := List.all_eq_true.1 this.2 j (List.mem_range.2 hj)
  simp only [Bool.or_eq_true, decide_eq_true_eq] at this
  exact this.resolve_left hne
def noGuards (ops : Array Oper) : Bool := ops.all (·.guard.isNone)
/-- Each operation finds what it needs: in slots from before, or behind an edge. -/
def needOk (ops : Array Oper) (init : List Nat) (need : Nat → List Nat) : Bool := (List.range ops.size).all fun i => ((ops[i]?).map fun o => (need i).all fun t => init.contains t || o.after.any fun e => Region.binds .any e && decide (dstOf ops e.on = some t)).getD true
/-- What an operation is: the making of the map, an entry of it, another one. -/
inductive OpTy where
  | mk
  | ins (k : Nat)
  | oth
  deriving DecidableEq
/-- Each entry, and each copy of the map, waits for the map. -/
def mapOk (ops : Array Oper) (ty : Nat → OpTy) (isMap : Nat → Bool) : Bool := (List.range ops.size).all fun i => ((ops[i]?).map fun o => (match ty i with | .mk => decide (i = 0) | .ins _ => o.dst.isNone && o.after.any fun e => Region.binds .any e && decide (e.on = 0) | .oth => decide (i ≠ 0) && (match o.dst with | none => true | some t => !isMap t || o.after.any fun e => Region.binds .any e && decide (e.on = 0)))).getD true
section
variable {Kd : Type}
/-- What the map holds at a key. -/
def KeyInv (Is : Kd → Value → Value → World → Prop) (FK : Nat → Kd) (ty : Nat → OpTy) (L : Nat → Prop) (mv : Value) (D : DataW Value) (w : World) (k : Nat) : Prop :=
  ((∃ i, ty i = .ins k ∧ L i) ∧ Maps.has D (kP k) = true ∧ ∃ v, (∀ z, D.atKey (kP k) z = .held v) ∧ Is (FK k) mv v w) ∨ ((∀ i, ty i = .ins k → ¬ L i) ∧ Maps.has D (kP k) = false)
structure MpInv (ops : Array Oper) (a0 : Act) (w0 : World) (Is : Kd → Value → Value → World → Prop) (T : Nat → Kd) (FK : Nat → Kd) (ty : Nat → OpTy) (init : List Nat) (ms : Nat) (m : Nat) (L : Nat → Prop) (a : Act) (w : World) : Prop where
  sz : a.tmps.size = a0.tmps.size
  df : a.defers = a0.defers
  dn : ∀ i, L i → i < ops.size ∧ ∀ o, ops[i]? = some o → ∀ e ∈ o.after, Region.binds .any e = true → L e.on
  val : ∀ i t, L i → dstOf ops i = some t → Is (T t) (a.tmps.getD ms undef) (a.tmps.getD t undef) w
  ini : ∀ t ∈ init, ∀ mv, Is (T t) mv (a.tmps.getD t undef) w
  blw : Below w0.heap.size w0 w
  mp : L 0 → ∃ M D, a.tmps.getD ms undef = .map (some M) ∧ w0.heap.size ≤ M ∧ MapAt w M m D ∧ Maps.IsMap D ∧ ∀ k, k < 4294967296 → KeyInv Is FK ty L (a.tmps.getD ms undef) D w k
theorem getD_put_same {a : Act} {t : Nat} {v : Value} (h : t < a.tmps.size) : (a.put (some t) v).tmps.getD t undef = v := by
  simp [Act.put, Array.getD_eq_getD_getElem?, h]
theorem getD_put_ne {a : Act} {t s : Nat} {v : Value} (h : t ≠ s) : (a.put (some t) v).tmps.getD s undef = a.tmps.getD s undef := by
  simp [Act.put, Array.getD_eq_getD_getElem?, Array.getElem?_setIfInBounds, h]
theorem put_size (a : Act) (d : Option Nat) (v : Value) : (a.put d v).tmps.size = a.tmps.size := by cases d <;> simp [Act.put]
theorem put_defers (a : Act) (d : Option Nat) (v : Value) : (a.put d v).defers = a.defers := by cases d <;> rfl
theorem kP_ne {k k' : Nat} (h : k ≠ k') : kP k ≠ kP k' := fun e => by
  unfold kP at e
  injection e with _ e
  omega
theorem isKey_kP (k : Nat) : WideAt.IsKeyLit (kP k) := trivial
theorem wp_map_region {ops : Array Oper} {Q : Exit → Act → World → Prop} {a0 : Act} {w0 w00 : World} {id : Nat} (Is : Kd → Value → Value → World → Prop) (T : Nat → Kd) (FK : Nat → Kd) (ty : Nat → OpTy) (isMap : Nat → Bool) (init : List Nat) (need : Nat → List Nat) (ms : Nat)
    (he : edgesBack ops = true) (hd : dstsOk ops a0.tmps.size = true) (hg : noGuards ops = true) (hn : needOk ops init need = true) (hmo : mapOk ops ty isMap = true) (hsz : ops.size ≤ 1000) (h0 : dstOf ops 0 = some ms)
    (hini0 : (init.all fun t => (List.range ops.size).all fun i => decide (dstOf ops i ≠ some t)) = true)
    (hck : ∀ k mv v w w', Is k mv v w → CK w w' → Is k mv v w') (hmv : ∀ t mv mv' v w, isMap t = false → Is (T t) mv v w → Is (T t) mv' v w) (hms : ∀ v w, Is (T ms) v v w) (hFK : ∀ k mv mv' v w, Is (FK k) mv v w → Is (FK k) mv' v w)
    (hw00 : Below w00.heap.size w00 w0.drew) (hini : ∀ t ∈ init, ∀ mv, Is (T t) mv (a0.tmps.getD t undef) w0.drew)
    (hmk : ∀ o, ops[0]? = some o → o.dst = some ms ∧ ∃ T, o.op = Op.makeMap T none)
    (hins : ∀ i o k, ops[i]? = some o → ty i = .ins k → k < 100 ∧ ∃ x, o.op = Op.insert 64 (.tmp ms) (.const (.int .u32 (k : Int))) x ∧ ∀ (a : Act) (w : World), (∀ t ∈ need i, Is (T t) (a.tmps.getD ms undef) (a.tmps.getD t undef) w) → Is (FK k) (a.tmps.getD ms undef) (a.eval x) w)
    (hoth : ∀ i o, ops[i]? = some o → ty i = .oth → ∀ (a : Act) (w : World), w00.heap.size ≤ w.heap.size → (∀ t ∈ need i, Is (T t) (a.tmps.getD ms undef) (a.tmps.getD t undef) w) → ∀ K : Act → World → Prop, (∀ v w', Below w.heap.size w w' → (∀ t, o.dst = some t → Is (T t) (a.tmps.getD ms undef) v w') → K (a.put o.dst v) w') → Oper.wp Tryz.prog o a w K Q)
    (hend : ∀ m L a w, MpInv ops a0 w00 Is T FK ty init ms m L a w → (∀ i, i < ops.size → L i) → Q .normal a w) : (Code.region id ops true).wp Tryz.prog Q a0 w0 := by
  refine wp_region_inv rfl he (fun m L a w => MpInv ops a0 w00 Is T FK ty init ms m L a w) ⟨rfl, rfl, fun i h => h.elim, fun i t h => h.elim, hini, hw00, fun h => h.elim⟩ ?_ hend
  intro m L a w i o hm hI ho hnL hed
  have his := (Array.getElem?_eq_some_iff.1 ho).1
  have hgu : o.guard = none := by
    have := Array.all_eq_true_iff_forall_mem.1 hg o (Array.mem_of_getElem? ho)
    simpa using this
  refine ⟨by simp [Region.wanted, hgu], ?_⟩
  have hdo : dstOf ops i = o.dst := by rw [dstOf, ho]; rfl
  have hmoi := List.all_eq_true.1 hmo i (List.mem_range.2 his)
  rw [ho] at hmoi
  simp only [Option.map_some, Option.getD_some] at hmoi
  have hL0 : ∀ j, L j → (∀ o, ops[j]? = some o → o.after.any (fun e => Region.binds .any e && decide (e.on = 0)) = true) → L 0 := fun j hj h => by
    obtain ⟨hjs, hjd⟩ := hI.dn j hj
    have hjo : ops[j]? = some ops[j] := Array.getElem?_eq_getElem hjs
    obtain ⟨e, hem, heb⟩ := arr_any (h _ hjo)
    simp only [Bool.and_eq_true, decide_eq_true_eq] at heb
    have := hjd _ hjo e hem heb.1
    rw [heb.2] at this; exact this
  have hms0 : ∀ j, j < ops.size → j ≠ 0 → dstOf ops j ≠ some ms := fun j hj h => dstsOk_ne hd (by omega) hj h0 h
  have hmsn : ms < a.tmps.size := by rw [hI.sz]; exact dstsOk_lt hd (by omega) h0
  have hneed : ∀ t ∈ need i, Is (T t) (a.tmps.getD ms undef) (a.tmps.getD t undef) w := fun t ht => by
    have := List.all_eq_true.1 hn i (List.mem_range.2 his)
    rw [ho] at this
    simp only [Option.map_some, Option.getD_some] at this
    have := List.all_eq_true.1 this t ht
    rw [Bool.or_eq_true] at this
    rcases this with h | h
    · exact hI.ini t (by simpa using h) _
    · obtain ⟨e, hem, heb⟩ := arr_any h
      simp only [Bool.and_eq_true, decide_eq_true_eq] at heb
      exact hI.val e.on t (hed e hem heb.1) heb.2
  have hdn : ∀ j, (L j ∨ j = i) → j < ops.size ∧ ∀ o, ops[j]? = some o → ∀ e ∈ o.after, Region.binds .any e = true → (L e.on ∨ e.on = i) := fun j hj => by
    rcases hj with hj | rfl
    · exact ⟨(hI.dn j hj).1, fun o' ho' e hem hb => .inl ((hI.dn j hj).2 o' ho' e hem hb)⟩
    · refine ⟨his, fun o' ho' e hem hb => .inl (hed e ?_ hb)⟩
      rw [ho] at ho'; injection ho' with ho'; rw [ho']; exact hem
  have hnini : ∀ t ∈ init, ∀ s, o.dst = some s → s ≠ t := fun t ht s hs e => by
    have := List.all_eq_true.1 (List.all_eq_true.1 hini0 t ht) i (List.mem_range.2 his)
    rw [decide_eq_true_eq, hdo, hs, e] at this
    exact this rfl
  cases hty : ty i with
  | mk =>
    rw [hty] at hmoi
    obtain rfl : i = 0 := by simpa using hmoi
    obtain ⟨hdst, TT, hop⟩ := hmk o ho
    have hrun : (execOp a.eval o).run Tryz.prog w = .ok (.value (.map (some w.heap.size))) (w.alloc (.map #[] 0)) := by
      simp [execOp, hop, run_makeMap, Result.andThen]
    unfold Oper.wp
    rw [hrun]
    show MpInv ops a0 w00 Is T FK ty init ms (m + 1) (fun j => L j ∨ j = 0) (a.put o.dst (.map (some w.heap.size))) (w.alloc (.map #[] 0))
    rw [hdst]
    have hck1 : CK w (w.alloc (.map #[] 0)) := CK.of_below (bl_alloc (Below.refl _ _) _)
    refine ⟨by rw [put_size]; exact hI.sz, by rw [put_defers]; exact hI.df, hdn, fun j t hj hjt => ?_, fun t ht mv => ?_, bl_alloc hI.blw _, fun _ => ⟨w.heap.size, .map [], ?_, hI.blw.size, ?_, ⟨[], rfl⟩, fun k hk => .inr ⟨fun j hj hjL => ?_, rfl⟩⟩⟩
    · rcases hj with hj | rfl
      · have hj0 : j ≠ 0 := fun e => hnL (e ▸ hj)
        have htm : t ≠ ms := fun e => hms0 j (hI.dn j hj).1 hj0 (e ▸ hjt)
        rw [getD_put_ne (Ne.symm htm)]
        have hmf : isMap t = false := by
          cases hq : isMap t with
          | false => rfl
          | true =>
            exfalso
            refine hnL (hL0 j hj fun o' ho' => ?_)
            have h1 := List.all_eq_true.1 hmo j (List.mem_range.2 (hI.dn j hj).1)
            rw [ho'] at h1
            simp only [Option.map_some, Option.getD_some] at h1
            have hdj : o'.dst = some t := by rw [dstOf, ho'] at hjt; exact hjt
            cases htj : ty j with
            | mk => rw [htj] at h1; exact absurd (by simpa using h1) hj0
            | ins k => rw [htj, hdj] at h1; simp at h1
            | oth =>
              rw [htj, hdj] at h1
              simp only [hq, Bool.not_true, Bool.false_or, Bool.and_eq_true] at h1
              exact h1.2
        exact hck _ _ _ _ _ (hmv t _ _ _ _ hmf (hI.val j t hj hjt)) hck1
      · rw [h0] at hjt; injection hjt with hjt; subst hjt
        exact hms _ _
    · rw [getD_put_ne (hnini t ht ms hdst)]
      exact hck _ _ _ _ _ (hI.ini t ht mv) hck1
    · exact getD_put_same hmsn
    · exact World.ownsMap.mono (World.ownsMap_made w _ _ _) (Nat.zero_le _)
    · have hj0 : j ≠ 0 := fun e => by rw [e, hty] at hj; cases hj
      have hLj := hjL.resolve_right hj0
      refine hnL (hL0 j hLj fun o' ho' => ?_)
      have h1 := List.all_eq_true.1 hmo j (List.mem_range.2 (hI.dn j hLj).1)
      rw [ho'] at h1
      simp only [Option.map_some, Option.getD_some, hj, Bool.and_eq_true] at h1
      exact h1.2
  | ins k =>
    rw [hty] at hmoi
    simp only [Bool.and_eq_true] at hmoi
    obtain ⟨hdn0, hedge⟩ := hmoi
    have hdst : o.dst = none := by simpa using hdn0
    have hL0' : L 0 := by
      obtain ⟨e, hem, heb⟩ := arr_any hedge
      simp only [Bool.and_eq_true, decide_eq_true_eq] at heb
      have := hed e hem heb.1
      rw [heb.2] at this; exact this
    obtain ⟨hk100, x, hop, hIs⟩ := hins i o k ho hty
    obtain ⟨M, D, hM, hMl, hown, hmap, hkey⟩ := hI.mp hL0'
    obtain ⟨w', hrun, r1, r2⟩ := World.ownsMap.update hown procKeyed Tryz.underlying64 (by unfold maxLen; omega) (key := .int .u32 (k : Int)) (val := a.eval x) (kl := kP k) (d := .held (a.eval x)) (ps := []) (keyP k (by omega)) rfl
    have hon : Only (· = M) w w' := (Only.refl _ _).grown r2 (fun i _ e => by injection e)
    have hck1 : CK w w' := CK.of_map hown hon
    have hfin : MpInv ops a0 w00 Is T FK ty init ms (m + 1) (fun j => L j ∨ j = i) a w' := by
      refine ⟨hI.sz, hI.df, hdn, fun j t hj hjt => ?_, fun t ht mv => hck _ _ _ _ _ (hI.ini t ht mv) hck1, ⟨hon.os.trans hI.blw.os, hon.tape.trans hI.blw.tape, hon.output.trans hI.blw.output, Nat.le_trans hI.blw.size hon.size, fun b hb => (hon.block b (Nat.lt_of_lt_of_le hb hI.blw.size) (by omega)).trans (hI.blw.block b hb)⟩, fun _ => ⟨M, _, hM, hMl, r1, ?_, fun k' hk' => ?_⟩⟩
      · rcases hj with hj | rfl
        · exact hck _ _ _ _ _ (hI.val j t hj hjt) hck1
        · rw [hdo, hdst] at hjt; cases hjt
      · obtain ⟨es, rfl⟩ := hmap
        exact ⟨_, rfl⟩
      · by_cases hkk : k' = k
        · subst hkk
          exact .inl ⟨⟨i, hty, .inr rfl⟩, Maps.has_put_same hmap (isKey_kP _) _, _, fun z => Maps.atKey_put_same hmap (isKey_kP _) _ _, hck _ _ _ _ _ (hIs a w hneed) hck1⟩
        · rcases hkey k' hk' with ⟨⟨j, hj1, hj2⟩, h2, v, h3, h4⟩ | ⟨h1, h2⟩
          · exact .inl ⟨⟨j, hj1, .inl hj2⟩, by rw [Maps.has_put_other (kP_ne hkk)]; exact h2, v, fun z => by rw [Maps.atKey_put_other (kP_ne hkk)]; exact h3 z, hck _ _ _ _ _ h4 hck1⟩
          · refine .inr ⟨fun j hj hjL => ?_, by rw [Maps.has_put_other (kP_ne hkk)]; exact h2⟩
            rcases hjL with hjL | rfl
            · exact h1 j hj hjL
            · rw [hty] at hj; injection hj with hj; exact hkk hj.symm
    have e1 : a.eval (.tmp ms) = .map (some M) := hM
    have e2 : a.eval (.const (.int .u32 (k : Int))) = .int .u32 (k : Int) := rfl
    unfold Oper.wp
    simp [execOp, hop, e1, e2, hrun, Result.andThen]
    show MpInv ops a0 w00 Is T FK ty init ms (m + 1) (fun j => L j ∨ j = i) (a.put o.dst undef) w'
    rw [hdst]; exact hfin
  | oth =>
    rw [hty] at hmoi
    simp only [Bool.and_eq_true, decide_eq_true_eq] at hmoi
    have hi0 : i ≠ 0 := hmoi.1
    refine hoth i o ho hty a w hI.blw.size hneed _ fun v w' hb hv => ?_
    have hck1 := CK.of_below hb
    have hdm : ∀ t, o.dst = some t → t ≠ ms := fun t ht e => hms0 i his hi0 (by rw [hdo, ht, e])
    have hmsE : (a.put o.dst v).tmps.getD ms undef = a.tmps.getD ms undef := by
      cases hq : o.dst with
      | none => rfl
      | some t => exact getD_put_ne (hdm t hq)
    have hoE : ∀ s, (∀ t, o.dst = some t → t ≠ s) → (a.put o.dst v).tmps.getD s undef = a.tmps.getD s undef := fun s hs => by
      cases hq : o.dst with
      | none => rfl
      | some t => exact getD_put_ne (hs t hq)
    refine ⟨by rw [put_size]; exact hI.sz, by rw [put_defers]; exact hI.df, hdn, fun j t hj hjt => ?_, fun t ht mv => ?_, bl_then hI.blw hb, fun h => ?_⟩
    · rw [hmsE]
      rcases hj with hj | rfl
      · have hji : j ≠ i := fun e => hnL (e ▸ hj)
        rw [hoE t fun s hs e => dstsOk_ne hd his (hI.dn j hj).1 (by rw [hdo, hs]) hji (e ▸ hjt)]
        exact hck _ _ _ _ _ (hI.val j t hj hjt) hck1
      · rw [hdo] at hjt
        rw [hjt, getD_put_same (by rw [hI.sz]; exact dstsOk_lt hd his (by rw [hdo]; exact hjt))]
        exact hv t hjt
    · rw [hoE t fun s hs => hnini t ht s hs]
      exact hck _ _ _ _ _ (hI.ini t ht mv) hck1
    · have hl0 : L 0 := h.resolve_right (fun e => hi0 e.symm)
      obtain ⟨M, D, hM, hMl, hown, hmap, hkey⟩ := hI.mp hl0
      refine ⟨M, D, by rw [hmsE]; exact hM, hMl, World.ownsMap.mono (MapAt.below hown hb) (Nat.le_succ m), hmap, fun k hk => ?_⟩
      rw [hmsE]
      rcases hkey k hk with ⟨⟨j, hj1, hj2⟩, h2, v2, h3, h4⟩ | ⟨h1, h2⟩
      · exact .inl ⟨⟨j, hj1, .inl hj2⟩, h2, v2, h3, hck _ _ _ _ _ h4 hck1⟩
      · refine .inr ⟨fun j hj hjL => ?_, h2⟩
        rcases hjL with hjL | rfl
        · exact h1 j hj hjL
        · rw [hty] at hj; cases hj
end
end Go.Proofs.YtgmhapjidbdhnaaGreat
namespace Go.Proofs.YtgmhapjidbdhnaaGreat
open Go.RowKit
variable {o : Oper} {a : Act} {w : World} {K : Act → World → Prop} {Q : Exit → Act → World → Prop}
theorem op_val {P : Program} {v : Value} {w' : World} (h : (execOp a.eval o).run P w = .ok (.value v) w') (hK : K (a.put o.dst v) w') : Oper.wp P o a w K Q := by
  unfold Oper.wp; rw [h]; exact hK
theorem op_enter {P : Program} {f : Nat} {args : Array Value} {post : Ending → World → Prop} (h : (execOp a.eval o).run P w = .ok (.enter f args) w) (hc : Calls P f args w post) (hp : ∀ e w', post e w' → ∃ v, e = .returned v ∧ K (a.put o.dst v) w') : Oper.wp P o a w K Q := by
  unfold Oper.wp
  rw [h]
  refine Calls.mono hc ?_
  rintro e w' hpost
  obtain ⟨v, rfl, hK⟩ := hp e w' hpost
  exact hK
theorem op_move {P : Program} {x : Operand} {v : Value} (ho : o.op = .move x) (hx : a.eval x = v) (hK : K (a.put o.dst v) w) : Oper.wp P o a w K Q := op_val (by simp [execOp, ho, hx]) hK
theorem op_assign {P : Program} {x : Operand} {v : Value} (ho : o.op = .assign x) (hx : a.eval x = v) (hK : K (a.put o.dst v) w) : Oper.wp P o a w K Q := op_val (by simp [execOp, ho, hx]) hK
theorem op_load {T : TypeId} {x : Operand} {v : Value} {ad : Addr} (hT : ∀ w : World, (isAgg T).run Tryz.prog w = .ok false w) (ho : o.op = .load T x) (hx : a.eval x = .pointer (some ad)) (hc : w.cell? ad = some v) (hK : K (a.put o.dst v) w) : Oper.wp Tryz.prog o a w K Q :=
  op_val (by
    simp only [execOp, ho, hx]
    simp [go_sem, hT, hc, Result.andThen]) hK
theorem op_nil {P : Program} {x : Operand} {ad : Addr} (ho : o.op = .nilCheck x) (hx : a.eval x = .pointer (some ad)) (hK : K (a.put o.dst (.pointer (some ad))) w) : Oper.wp P o a w K Q := op_val (by
    simp only [execOp, ho, hx]
    simp [go_sem]) hK
theorem op_makeFunc {P : Program} {f : Nat} {caps : Array Operand} (ho : o.op = .makeFunc (.func f) #[] caps) (hK : K (a.put o.dst (.func (.func f) #[] (caps.map a.eval))) w) : Oper.wp P o a w K Q := op_val (by simp [execOp, ho, go_sem]) hK
theorem op_makeFunc1 {P : Program} {f : Nat} {x : Operand} (ho : o.op = .makeFunc (.func f) #[] #[x]) (hK : K (a.put o.dst (.func (.func f) #[] #[a.eval x])) w) : Oper.wp P o a w K Q := op_makeFunc ho (by simpa using hK)
theorem op_call {f : Nat} {args : Array Operand} {vals : Array Value} {ts : Array TypeId} {post : Ending → World → Prop} (hf : Enters Tryz.prog f) (ho : o.op = .call { callee := .value (.func f), args := args, argTypes := ts }) (hv : args.map a.eval = vals) (hc : Calls Tryz.prog f vals w post) (hp : ∀ e w', post e w' → ∃ v, e = .returned v ∧ K (a.put o.dst v) w') : Oper.wp Tryz.prog o a w K Q := by
  subst hv
  refine op_enter (f := f) (args := args.map a.eval) ?_ hc hp
  have e := hf (args.map a.eval) w
  have e2 : a.eval (.func f) = .func (.func f) #[] #[] := rfl
  simp only [execOp, ho, resolve, e2]
  simp [go_sem, invoke, Deferred.ofValue, e, Result.andThen]
theorem agg_ptrArgs : ∀ w : World, (isAgg 66).run Tryz.prog w = .ok false w := fun _ => by kernel_rfl
theorem op_field {x : Operand} {b off : Nat} (f : Nat) (hf : ∀ w : World, (Instr.fieldAt 33 (.pointer (some ⟨b, 0, none⟩)) f).run Tryz.prog w = .ok (.pointer (some ⟨b, off, none⟩)) w) (ho : o.op = .fieldAddr 33 x f) (hx : a.eval x = .pointer (some ⟨b, 0, none⟩)) (hK : K (a.put o.dst (.pointer (some ⟨b, off, none⟩))) w) : Oper.wp Tryz.prog o a w K Q :=
  op_val (by
    simp only [execOp, ho, hx]
    simp [hf, Result.andThen]) hK
theorem fld1 (b : Nat) : ∀ w : World, (Instr.fieldAt 33 (.pointer (some ⟨b, 0, none⟩)) 1).run Tryz.prog w = .ok (.pointer (some ⟨b, 1, none⟩)) w := fun w => by simp [go_sem]
theorem fld3 (b : Nat) : ∀ w : World, (Instr.fieldAt 33 (.pointer (some ⟨b, 0, none⟩)) 3).run Tryz.prog w = .ok (.pointer (some ⟨b, 3, none⟩)) w := fun w => by simp [go_sem]
theorem fld2 (b : Nat) : ∀ w : World, (Instr.fieldAt 33 (.pointer (some ⟨b, 0, none⟩)) 2).run Tryz.prog w = .ok (.pointer (some ⟨b, 2, none⟩)) w := fun w => by simp [go_sem]
theorem fld4 (b : Nat) : ∀ w : World, (Instr.fieldAt 33 (.pointer (some ⟨b, 0, none⟩)) 4).run Tryz.prog w = .ok (.pointer (some ⟨b, 4, none⟩)) w := fun w => by simp [go_sem]
theorem fld14 (b : Nat) : ∀ w : World, (Instr.fieldAt 33 (.pointer (some ⟨b, 0, none⟩)) 14).run Tryz.prog w = .ok (.pointer (some ⟨b, 28, none⟩)) w := fun w => by simp [go_sem]
theorem fld5 (b : Nat) : ∀ w : World, (Instr.fieldAt 33 (.pointer (some ⟨b, 0, none⟩)) 5).run Tryz.prog w = .ok (.pointer (some ⟨b, 5, none⟩)) w := fun w => by simp [go_sem]
theorem fld9 (b : Nat) : ∀ w : World, (Instr.fieldAt 33 (.pointer (some ⟨b, 0, none⟩)) 9).run Tryz.prog w = .ok (.pointer (some ⟨b, 23, none⟩)) w := fun w => by simp [go_sem]
theorem fld10 (b : Nat) : ∀ w : World, (Instr.fieldAt 33 (.pointer (some ⟨b, 0, none⟩)) 10).run Tryz.prog w = .ok (.pointer (some ⟨b, 24, none⟩)) w := fun w => by simp [go_sem]
theorem fld17 (b : Nat) : ∀ w : World, (Instr.fieldAt 33 (.pointer (some ⟨b, 0, none⟩)) 17).run Tryz.prog w = .ok (.pointer (some ⟨b, 31, none⟩)) w := fun w => by simp [go_sem]
theorem fld18 (b : Nat) : ∀ w : World, (Instr.fieldAt 33 (.pointer (some ⟨b, 0, none⟩)) 18).run Tryz.prog w = .ok (.pointer (some ⟨b, 39, none⟩)) w := fun w => by simp [go_sem]
theorem fld6 (b : Nat) : ∀ w : World, (Instr.fieldAt 33 (.pointer (some ⟨b, 0, none⟩)) 6).run Tryz.prog w = .ok (.pointer (some ⟨b, 19, none⟩)) w := fun w => by simp [go_sem]
theorem fld7 (b : Nat) : ∀ w : World, (Instr.fieldAt 33 (.pointer (some ⟨b, 0, none⟩)) 7).run Tryz.prog w = .ok (.pointer (some ⟨b, 20, none⟩)) w := fun w => by simp [go_sem]
theorem fld8 (b : Nat) : ∀ w : World, (Instr.fieldAt 33 (.pointer (some ⟨b, 0, none⟩)) 8).run Tryz.prog w = .ok (.pointer (some ⟨b, 22, none⟩)) w := fun w => by simp [go_sem]
theorem fld12 (b : Nat) : ∀ w : World, (Instr.fieldAt 33 (.pointer (some ⟨b, 0, none⟩)) 12).run Tryz.prog w = .ok (.pointer (some ⟨b, 26, none⟩)) w := fun w => by simp [go_sem]
theorem fld13 (b : Nat) : ∀ w : World, (Instr.fieldAt 33 (.pointer (some ⟨b, 0, none⟩)) 13).run Tryz.prog w = .ok (.pointer (some ⟨b, 27, none⟩)) w := fun w => by simp [go_sem]
theorem fld15 (b : Nat) : ∀ w : World, (Instr.fieldAt 33 (.pointer (some ⟨b, 0, none⟩)) 15).run Tryz.prog w = .ok (.pointer (some ⟨b, 29, none⟩)) w := fun w => by simp [go_sem]
theorem fld16 (b : Nat) : ∀ w : World, (Instr.fieldAt 33 (.pointer (some ⟨b, 0, none⟩)) 16).run Tryz.prog w = .ok (.pointer (some ⟨b, 30, none⟩)) w := fun w => by simp [go_sem]
theorem fld11 (b : Nat) : ∀ w : World, (Instr.fieldAt 33 (.pointer (some ⟨b, 0, none⟩)) 11).run Tryz.prog w = .ok (.pointer (some ⟨b, 25, none⟩)) w := fun w => by simp [go_sem]
theorem run_build1 (ev : Operand → Value) {x0 : Operand} {f0 : Nat} {c0 : Array Value} (h0 : ev x0 = .func (.func f0) #[] c0) (ho : o.op = .buildSlice 62 1 #[(0, x0)]) : (execOp ev o).run Tryz.prog w = .ok (.value (.slice (some ⟨w.heap.size, 0, none⟩) 1 1)) (w.alloc (.cells #[.func (.func f0) #[] c0] 87)) := by
  simp only [execOp, ho]
  simp [go_sem, h0, Result.andThen]
theorem run_build2 (ev : Operand → Value) {x0 x1 : Operand} {f0 f1 : Nat} {c0 c1 : Array Value} (h0 : ev x0 = .func (.func f0) #[] c0) (h1 : ev x1 = .func (.func f1) #[] c1) (ho : o.op = .buildSlice 62 2 #[(0, x0), (1, x1)]) : (execOp ev o).run Tryz.prog w = .ok (.value (.slice (some ⟨w.heap.size, 0, none⟩) 2 2)) (w.alloc (.cells #[.func (.func f0) #[] c0, .func (.func f1) #[] c1] 87)) := by
  simp only [execOp, ho]
  simp [go_sem, h0, h1, Result.andThen]
theorem run_build3 (ev : Operand → Value) {x0 x1 x2 : Operand} {f0 f1 f2 : Nat} {c0 c1 c2 : Array Value} (h0 : ev x0 = .func (.func f0) #[] c0) (h1 : ev x1 = .func (.func f1) #[] c1) (h2 : ev x2 = .func (.func f2) #[] c2) (ho : o.op = .buildSlice 62 3 #[(0, x0), (1, x1), (2, x2)]) : (execOp ev o).run Tryz.prog w = .ok (.value (.slice (some ⟨w.heap.size, 0, none⟩) 3 3)) (w.alloc (.cells #[.func (.func f0) #[] c0, .func (.func f1) #[] c1, .func (.func f2) #[] c2] 87)) := by
  simp only [execOp, ho]
  simp [go_sem, h0, h1, h2, Result.andThen]
theorem run_build4 (ev : Operand → Value) {x0 x1 x2 x3 : Operand} {f0 f1 f2 f3 : Nat} {c0 c1 c2 c3 : Array Value} (h0 : ev x0 = .func (.func f0) #[] c0) (h1 : ev x1 = .func (.func f1) #[] c1) (h2 : ev x2 = .func (.func f2) #[] c2) (h3 : ev x3 = .func (.func f3) #[] c3) (ho : o.op = .buildSlice 62 4 #[(0, x0), (1, x1), (2, x2), (3, x3)]) : (execOp ev o).run Tryz.prog w = .ok (.value (.slice (some ⟨w.heap.size, 0, none⟩) 4 4)) (w.alloc (.cells #[.func (.func f0) #[] c0, .func (.func f1) #[] c1, .func (.func f2) #[] c2, .func (.func f3) #[] c3] 87)) := by
  simp only [execOp, ho]
  simp [go_sem, h0, h1, h2, h3, Result.andThen]
theorem run_build5 (ev : Operand → Value) {x0 x1 x2 x3 x4 : Operand} {f0 f1 f2 f3 f4 : Nat} {c0 c1 c2 c3 c4 : Array Value} (h0 : ev x0 = .func (.func f0) #[] c0) (h1 : ev x1 = .func (.func f1) #[] c1) (h2 : ev x2 = .func (.func f2) #[] c2) (h3 : ev x3 = .func (.func f3) #[] c3) (h4 : ev x4 = .func (.func f4) #[] c4) (ho : o.op = .buildSlice 62 5 #[(0, x0), (1, x1), (2, x2), (3, x3), (4, x4)]) : (execOp ev o).run Tryz.prog w = .ok (.value (.slice (some ⟨w.heap.size, 0, none⟩) 5 5)) (w.alloc (.cells #[.func (.func f0) #[] c0, .func (.func f1) #[] c1, .func (.func f2) #[] c2, .func (.func f3) #[] c3, .func (.func f4) #[] c4] 87)) := by
  simp only [execOp, ho]
  simp [go_sem, h0, h1, h2, h3, h4, Result.andThen]
end Go.Proofs.YtgmhapjidbdhnaaGreat
namespace Go.Proofs.YtgmhapjidbdhnaaGreat
open Go.RowKit
section
variable {w w' : World} {lo : Nat}
theorem Bx.ck {b : Nat} {v : Value} (h : Bx w lo b v) (k : CK w w') : Bx w' lo b v := ⟨h.1, Nat.lt_of_lt_of_le h.2.1 k.size, k.cell _ _ h.2.2⟩
theorem OfShape.ck {f : Nat} {fv gv pv : Value} {T o : Nat} (h : OfShape f w lo fv gv pv T o) (k : CK w w') : OfShape f w' lo fv gv pv T o := by
  obtain ⟨X, G, Pb, e, a1, a2, a3, a4, a5, a6, c1, c2, c3⟩ := h.box
  exact ⟨X, G, Pb, e, a1, Nat.lt_of_lt_of_le a2 k.size, a3, Nat.lt_of_lt_of_le a4 k.size, a5, Nat.lt_of_lt_of_le a6 k.size, k.cell _ _ c1, k.cell _ _ c2, k.cell _ _ c3⟩
theorem ShortG.ck {f : Nat} {n : Int} {gv g : Value} (h : ShortG w lo gv f n g) (k : CK w w') : ShortG w' lo gv f n g := by
  obtain ⟨Gb, Nb, e, a1, a2, a3, a4, c1, c2⟩ := h
  exact ⟨Gb, Nb, e, a1, Nat.lt_of_lt_of_le a2 k.size, a3, Nat.lt_of_lt_of_le a4 k.size, k.cell _ _ c1, k.cell _ _ c2⟩
theorem ShortP.ck {f : Nat} {pv g : Value} (h : ShortP w lo pv f g) (k : CK w w') : ShortP w' lo pv f g := by
  obtain ⟨Gb, e, a1, a2, c1⟩ := h
  exact ⟨Gb, e, a1, Nat.lt_of_lt_of_le a2 k.size, k.cell _ _ c1⟩
theorem ShortShape.ck {fo f1 f2 : Nat} {n : Int} {g p : Value} {T o : Nat} {fv : Value} (h : ShortShape fo f1 f2 n g p w lo fv T o) (k : CK w w') : ShortShape fo f1 f2 n g p w' lo fv T o := by
  obtain ⟨gv, pv, h1, h2, h3⟩ := h
  exact ⟨gv, pv, h1.ck k, h2.ck k, h3.ck k⟩
theorem BytesShape.ck {most : Int} {fv : Value} {T o : Nat} (h : BytesShape most w lo fv T o) (k : CK w w') : BytesShape most w' lo fv T o := by
  obtain ⟨M, a1, a2, c, s⟩ := h
  exact ⟨M, a1, Nat.lt_of_lt_of_le a2 k.size, k.cell _ _ c, s.ck k⟩
theorem TextShape.ck {most : Int} {fv : Value} {T o : Nat} (h : TextShape most w lo fv T o) (k : CK w w') : TextShape most w' lo fv T o := by
  obtain ⟨M, a1, a2, c, s⟩ := h
  exact ⟨M, a1, Nat.lt_of_lt_of_le a2 k.size, k.cell _ _ c, s.ck k⟩
theorem TimeShape.ck {fv : Value} {T o : Nat} (h : TimeShape w lo fv T o) (k : CK w w') : TimeShape w' lo fv T o := by
  obtain ⟨X, Q, qf, qc, e, h1, h2, h3⟩ := h
  exact ⟨X, Q, qf, qc, e, h1.ck k, h2.ck k, ShortShape.ck h3 k⟩
theorem SmallShape.ck {most : Int} {fv : Value} {T o : Nat} (h : SmallShape most w lo fv T o) (k : CK w w') : SmallShape most w' lo fv T o := by
  obtain ⟨X, M, Q, qf, qc, e, h1, h2, h3, h4⟩ := h
  exact ⟨X, M, Q, qf, qc, e, h1.ck k, h2.ck k, h3.ck k, ShortShape.ck h4 k⟩
theorem IfShape.ck {fv iv lv : Value} (h : IfShape w lo fv iv lv) (k : CK w w') : IfShape w' lo fv iv lv := by
  obtain ⟨I, L, e, h1, h2⟩ := h
  exact ⟨I, L, e, h1.ck k, h2.ck k⟩
theorem OptionShape.ck {fv lv : Value} {T o : Nat} (h : OptionShape w lo fv T o lv) (k : CK w w') : OptionShape w' lo fv T o lv := by
  obtain ⟨Y, H, L, qf, qc, e, h1, h2, h3, h4⟩ := h
  exact ⟨Y, H, L, qf, qc, e, h1.ck k, h2.ck k, h3.ck k, ShortShape.ck h4 k⟩
theorem PL.ck {v : Value} {fvs : List Value} (h : PL w v fvs) (k : CK w w') : PL w' v fvs := by
  rcases h with h | ⟨b, off, c, e, h1, h2, h3⟩
  · exact .inl h
  · exact .inr ⟨b, off, c, e, h1, Nat.lt_of_lt_of_le h2 k.size, fun j hj => k.cell _ _ (h3 j hj)⟩
theorem One1.ck {lv fv : Value} (h : One1 w lo lv fv) (k : CK w w') : One1 w' lo lv fv := ⟨h.1.ck k, h.2.1, fun g hg => ⟨(h.2.2 g hg).1, Nat.lt_of_lt_of_le (h.2.2 g hg).2 k.size⟩⟩
theorem Nums.ck {lv : Value} {ns : List Nat} (h : Nums w lo lv ns) (k : CK w w') : Nums w' lo lv ns := by
  obtain ⟨b, c, e, h1, h2, h3⟩ := h
  exact ⟨b, c, e, h1, Nat.lt_of_lt_of_le h2 k.size, fun j hj => k.cell _ _ (h3 j hj)⟩
theorem PkShape.ck {K : Nat} {fv : Value} {p : Pk} (h : PkShape w lo K fv p) (k : CK w w') : PkShape w' lo K fv p := by
  cases p with
  | h => exact BytesShape.ck h k
  | name => exact TextShape.ck h k
  | h2 => exact BytesShape.ck h k
  | name2 => exact TextShape.ck h k
  | target => exact TextShape.ck h k
  | data => exact BytesShape.ck h k
  | set => exact OfShape.ck h k
  | offset => exact ShortShape.ck h k
  | cookie => exact ShortShape.ck h k
  | count => exact ShortShape.ck h k
  | bits => exact ShortShape.ck h k
  | max => exact ShortShape.ck h k
  | kind => exact ShortShape.ck h k
  | verf => exact OfShape.ck h k
  | guard =>
    obtain ⟨lv, gv, h1, h2, h3⟩ := h
    exact ⟨lv, gv, h1.ck k, h2.ck k, h3.ck k⟩
  | stable => exact SmallShape.ck h k
  | how => exact SmallShape.ck h k
  | howVerf =>
    obtain ⟨lv, gv, A0, h1, h2, h3, h4⟩ := h
    exact ⟨lv, gv, A0, h1.ck k, h2.ck k, h3.ck k, OfShape.ck h4 k⟩
  | howSet =>
    obtain ⟨lv, gv, A0, h1, h2, h3, h4⟩ := h
    exact ⟨lv, gv, A0, h1.ck k, h2.ck k, h3.ck k, OfShape.ck h4 k⟩
  | kindSet =>
    obtain ⟨lv, gv, A0, L, nv, h1, h2, h3, h4, h5, h6⟩ := h
    exact ⟨lv, gv, A0, L, nv, h1.ck k, h2.ck k, h3.ck k, h4.ck k, h5.ck k, OfShape.ck h6 k⟩
  | kindOff =>
    obtain ⟨lv, gv, A0, L, nv, h1, h2, h3, h4, h5, h6⟩ := h
    exact ⟨lv, gv, A0, L, nv, h1.ck k, h2.ck k, h3.ck k, h4.ck k, h5.ck k, ShortShape.ck h6 k⟩
end
/-- A slice of parts of these kinds, from lo on. -/
def RowIs (w : World) (lo K : Nat) (v : Value) (l : List Pk) : Prop :=
  ∃ ps : List (Value × Pk), PL w v (ps.map (·.1)) ∧ ps.map (·.2) = l ∧ (∀ q ∈ ps, PkShape w lo K q.1 q.2) ∧ ∀ g, Value.inBlock v = some g → lo ≤ g ∧ g < w.heap.size
theorem RowIs.ck {w w' : World} {lo K : Nat} {v : Value} {l : List Pk} (h : RowIs w lo K v l) (k : CK w w') : RowIs w' lo K v l := by
  obtain ⟨ps, h1, h2, h3, h4⟩ := h
  exact ⟨ps, h1.ck k, h2, fun q hq => (h3 q hq).ck k, fun g hg => ⟨(h4 g hg).1, Nat.lt_of_lt_of_le (h4 g hg).2 k.size⟩⟩
/-- A full slice of parts. -/
def FullIs (w : World) (lo K : Nat) (v : Value) (l : List Pk) : Prop :=
  ∃ (ps : List (Value × Pk)) (b : Nat), v = .slice (some ⟨b, 0, none⟩) ps.length ps.length ∧ ps.length ≤ 1000 ∧ lo ≤ b ∧ b < w.heap.size ∧ (∀ j u, (ps.map (·.1))[j]? = some u → w.cell? ⟨b, j, none⟩ = some u) ∧ ps.map (·.2) = l ∧ ∀ q ∈ ps, PkShape w lo K q.1 q.2
theorem FullIs.ck {w w' : World} {lo K : Nat} {v : Value} {l : List Pk} (h : FullIs w lo K v l) (k : CK w w') : FullIs w' lo K v l := by
  obtain ⟨ps, b, h1, h2, h3, h4, h5, h6, h7⟩ := h
  exact ⟨ps, b, h1, h2, h3, Nat.lt_of_lt_of_le h4 k.size, fun j u hu => k.cell _ _ (h5 j u hu), h6, fun q hq => (h7 q hq).ck k⟩
theorem FullIs.row {w : World} {lo K : Nat} {v : Value} {l : List Pk} (h : FullIs w lo K v l) : RowIs w lo K v l := by
  obtain ⟨ps, b, rfl, h2, h3, h4, h5, h6, h7⟩ := h
  refine ⟨ps, .inr ⟨b, 0, ps.length, by rw [List.length_map], by rw [List.length_map]; exact h2, h4, fun j hj => ?_⟩, h6, h7, fun g hg => ?_⟩
  · rw [Nat.zero_add]
    exact h5 j _ (List.getElem?_eq_getElem hj)
  · injection hg with hg; subst hg
    exact ⟨h3, h4⟩
/-- The kinds of values. -/
inductive Ka where
  | any
  | ex (v : Value)
  | a0
  | part (p : Pk)
  | row (l : List Pk)
  | full (l : List Pk)
  | time
  | ones (p : Pk)
  | onesT
  | nums (l : List Nat)
  | cond (l : List Nat)
  | mapv
def KIs (lo K A0 : Nat) : Ka → Value → Value → World → Prop
  | .any, _, _, _ => True
  | .ex x, _, v, _ => v = x
  | .a0, _, v, w => v = .pointer (some ⟨A0, 0, none⟩) ∧ Bx w lo A0 (.pointer (some ⟨K, 0, none⟩))
  | .part p, _, v, w => (∃ f c, v = .func (.func f) #[] c) ∧ PkShape w lo K v p
  | .row l, _, v, w => RowIs w lo K v l
  | .full l, _, v, w => FullIs w lo K v l
  | .time, _, v, w => (∃ f c, v = .func (.func f) #[] c) ∧ TimeShape w lo v K 20
  | .ones p, _, v, w => ∃ fv, One1 w lo v fv ∧ PkShape w lo K fv p
  | .onesT, _, v, w => ∃ fv, One1 w lo v fv ∧ TimeShape w lo fv K 20
  | .nums l, _, v, w => Nums w lo v l
  | .cond l, _, v, w => ∃ L nv, v = .func (.func 44) #[] #[.pointer (some ⟨L, 0, none⟩), .pointer (some ⟨A0, 0, none⟩)] ∧ Bx w lo A0 (.pointer (some ⟨K, 0, none⟩)) ∧ Bx w lo L nv ∧ Nums w lo nv l
  | .mapv, mv, v, _ => v = mv
theorem KIs.ck {lo K A0 : Nat} (k : Ka) (mv v : Value) (w w' : World) (h : KIs lo K A0 k mv v w) (hc : CK w w') : KIs lo K A0 k mv v w' := by
  cases k with
  | any => trivial
  | ex x => exact h
  | a0 => exact ⟨h.1, h.2.ck hc⟩
  | part p => exact ⟨h.1, h.2.ck hc⟩
  | row l => exact RowIs.ck h hc
  | full l => exact FullIs.ck h hc
  | time => exact ⟨h.1, h.2.ck hc⟩
  | ones p => obtain ⟨fv, h1, h2⟩ := h; exact ⟨fv, h1.ck hc, h2.ck hc⟩
  | onesT => obtain ⟨fv, h1, h2⟩ := h; exact ⟨fv, h1.ck hc, h2.ck hc⟩
  | nums l => exact Nums.ck h hc
  | cond l => obtain ⟨L, nv, h1, h2, h3, h4⟩ := h; exact ⟨L, nv, h1, h2.ck hc, h3.ck hc, h4.ck hc⟩
  | mapv => exact h
section
variable {w : World} {lo lo' : Nat} {fv : Value} {T o : Nat}
theorem ShortShape.isFunc {fo f1 f2 : Nat} {n : Int} {g p : Value} (h : ShortShape fo f1 f2 n g p w lo fv T o) : ∃ f c, fv = .func (.func f) #[] c := by
  obtain ⟨gv, pv, h1, _, _⟩ := h
  exact h1.isFunc
theorem BytesShape.isFunc {most : Int} (h : BytesShape most w lo fv T o) : ∃ f c, fv = .func (.func f) #[] c := by
  obtain ⟨M, _, _, _, s⟩ := h
  exact s.isFunc
theorem TextShape.isFunc {most : Int} (h : TextShape most w lo fv T o) : ∃ f c, fv = .func (.func f) #[] c := by
  obtain ⟨M, _, _, _, s⟩ := h
  exact s.isFunc
theorem TimeShape.isFunc (h : TimeShape w lo fv T o) : ∃ f c, fv = .func (.func f) #[] c := by
  obtain ⟨X, Q, qf, qc, e, _⟩ := h
  exact ⟨_, _, e⟩
theorem SmallShape.isFunc {most : Int} (h : SmallShape most w lo fv T o) : ∃ f c, fv = .func (.func f) #[] c := by
  obtain ⟨X, M, Q, qf, qc, e, _⟩ := h
  exact ⟨_, _, e⟩
theorem IfShape.isFunc {iv lv : Value} (h : IfShape w lo fv iv lv) : ∃ f c, fv = .func (.func f) #[] c := by
  obtain ⟨I, L, e, _⟩ := h
  exact ⟨_, _, e⟩
theorem OptionShape.isFunc {lv : Value} (h : OptionShape w lo fv T o lv) : ∃ f c, fv = .func (.func f) #[] c := by
  obtain ⟨Y, H, L, qf, qc, e, _⟩ := h
  exact ⟨_, _, e⟩
theorem TimeShape.low (h : TimeShape w lo fv T o) (hl : lo' ≤ lo) : TimeShape w lo' fv T o := by
  obtain ⟨X, Q, qf, qc, e, h1, h2, h3⟩ := h
  exact ⟨X, Q, qf, qc, e, h1.low hl, h2.low hl, ShortShape.low h3 hl⟩
theorem SmallShape.low {most : Int} (h : SmallShape most w lo fv T o) (hl : lo' ≤ lo) : SmallShape most w lo' fv T o := by
  obtain ⟨X, M, Q, qf, qc, e, h1, h2, h3, h4⟩ := h
  exact ⟨X, M, Q, qf, qc, e, h1.low hl, h2.low hl, h3.low hl, ShortShape.low h4 hl⟩
theorem IfShape.low {iv lv : Value} (h : IfShape w lo fv iv lv) (hl : lo' ≤ lo) : IfShape w lo' fv iv lv := by
  obtain ⟨I, L, e, h1, h2⟩ := h
  exact ⟨I, L, e, h1.low hl, h2.low hl⟩
theorem OptionShape.low {lv : Value} (h : OptionShape w lo fv T o lv) (hl : lo' ≤ lo) : OptionShape w lo' fv T o lv := by
  obtain ⟨Y, H, L, qf, qc, e, h1, h2, h3, h4⟩ := h
  exact ⟨Y, H, L, qf, qc, e, h1.low hl, h2.low hl, h3.low hl, ShortShape.low h4 hl⟩
end
theorem RowIs.new {w : World} {lo K : Nat} {ps : List (Value × Pk)} {t : TypeId} (h : ∀ q ∈ ps, PkShape w lo K q.1 q.2) (hl : ps.length ≤ 1000) (hlo : lo ≤ w.heap.size) : RowIs (w.alloc (.cells (ps.map (·.1)).toArray t)) lo K (.slice (some ⟨w.heap.size, 0, none⟩) ps.length ps.length) (ps.map (·.2)) := by
  have hp := PL.of_own (OwnL.new' (w := w) (l := ps.map (·.1)) (t := t) rfl) (by rw [List.length_map]; exact hl) ps.length
  rw [List.length_map] at hp
  refine ⟨ps, hp, rfl, fun q hq => (h q hq).ck (CK.of_below (bl_alloc (Below.refl _ _) _)), fun g hg => ?_⟩
  injection hg with hg; subst hg
  exact ⟨hlo, by simp⟩
theorem FullIs.new {w : World} {lo K : Nat} {ps : List (Value × Pk)} {t : TypeId} (h : ∀ q ∈ ps, PkShape w lo K q.1 q.2) (hl : ps.length ≤ 1000) (hlo : lo ≤ w.heap.size) : FullIs (w.alloc (.cells (ps.map (·.1)).toArray t)) lo K (.slice (some ⟨w.heap.size, 0, none⟩) ps.length ps.length) (ps.map (·.2)) := by
  have ho := OwnL.new (w := w) (l := ps.map (·.1)) (t := t)
  exact ⟨ps, w.heap.size, rfl, hl, hlo, by simp, fun j u hu => (ho.2.1 j).trans hu, rfl, fun q hq => (h q hq).ck (CK.of_below (bl_alloc (Below.refl _ _) _))⟩
theorem One1.new {w : World} {lo : Nat} {fv : Value} {t : TypeId} (hlo : lo ≤ w.heap.size) : One1 (w.alloc (.cells #[fv] t)) lo (.slice (some ⟨w.heap.size, 0, none⟩) 1 1) fv := by
  have hp := PL.of_own (OwnL.new' (w := w) (l := [fv]) (t := t) rfl) (Nat.le_of_ble_eq_true rfl) 1
  refine ⟨hp, ⟨_, _, _, rfl⟩, fun g hg => ?_⟩
  injection hg with hg; subst hg
  exact ⟨hlo, by simp⟩
theorem Nums.new {w : World} {lo : Nat} {ns : List Nat} {t : TypeId} (hlo : lo ≤ w.heap.size) : Nums (w.alloc (.cells (ns.map fun n : Nat => Value.int .u32 (n : Int)).toArray t)) lo (.slice (some ⟨w.heap.size, 0, none⟩) ns.length ns.length) ns := by
  have ho := OwnL.new (w := w) (l := ns.map fun n : Nat => Value.int .u32 (n : Int)) (t := t)
  refine ⟨w.heap.size, ns.length, rfl, hlo, by simp, fun j hj => (ho.2.1 j).trans ?_⟩
  rw [List.getElem?_map, List.getElem?_eq_getElem hj, List.getD_eq_getElem?_getD, List.getElem?_eq_getElem hj]
  rfl
theorem opOf {ops : Array Oper} {i : Nat} {o : Oper} {x : Op} (h : ops[i]? = some o) (e : (ops[i]?).map (·.op) = some x) : o.op = x := by rw [h] at e; injection e
theorem dstIs {ops : Array Oper} {i : Nat} {o : Oper} {x : Option Tmp} (h : ops[i]? = some o) (e : (ops[i]?).map (·.dst) = some x) : o.dst = x := by rw [h] at e; injection e
def regOps (id : Nat) : Code → Option (Array Oper)
  | .region i ops _ => if i = id then some ops else none
  | .seq x y => match regOps id x with | some r => some r | none => regOps id y
  | .cond _ x y => match regOps id x with | some r => some r | none => regOps id y
  | .loop c => regOps id c
  | .block _ c => regOps id c
  | _ => none
def regOf (fn : Func) (id : Nat) : Array Oper := match fn.body with | some c => (regOps id c).getD #[] | none => #[]
theorem wp_ops {P : Program} {id : Nat} {ops ops' : Array Oper} {b : Bool} {Q : Exit → Act → World → Prop} {a : Act} {w : World} (e : ops = ops') (h : (Code.region id ops' b).wp P Q a w) : (Code.region id ops b).wp P Q a w := by rw [e]; exact h
end Go.Proofs.YtgmhapjidbdhnaaGreat
namespace Go.Proofs.YtgmhapjidbdhnaaGreat
open Go.RowKit
noncomputable def opsR : Array Oper := regOf Tryz.f23 6
def kL (K A0 : Nat) : List Ka := [.any, .a0, .mapv, .part .h, .part .h2, .part .name, .part .name2, .part .target, .part .set, .part .offset, .part .count, .part .verf, .ex (.func (.func 43) #[] #[.pointer (some ⟨A0, 0, none⟩)]), .row [.h], .row [.h, .name], .full [.h, .cookie, .verf, .count], .any, .any, .any, .any, .any, .any, .any, .any, .any, .any, .any, .any, .any, .any, .any, .any, .any, .any, .any, .any, .any, .any, .any, .any, .any, .any, .any, .any, .any, .any, .any, .any, .any, .any, .any, .any, .any, .any, .any, .any, .any, .any, .any, .any, .any, .any, .any, .any, .any, .any, .mapv, .row [.h], .row [.h], .row [.h], .row [.h], .row [.h], .part .h, .part .set, .ex (.pointer (some ⟨K, 0, none⟩)), .ex (.pointer (some ⟨K, 0, none⟩)), .ex (.pointer (some ⟨K, 19, none⟩)), .ex (.pointer (some ⟨K, 0, none⟩)), .ex (.pointer (some ⟨K, 0, none⟩)), .ex (.pointer (some ⟨K, 20, none⟩)), .time, .onesT, .part .guard, .row [.h, .set, .guard], .row [.h, .name], .row [.h, .name], .row [.h, .name], .part .h, .ex (.pointer (some ⟨K, 0, none⟩)), .ex (.pointer (some ⟨K, 0, none⟩)), .ex (.pointer (some ⟨K, 22, none⟩)), .part .bits, .row [.h, .bits], .part .h, .part .offset, .part .count, .row [.h, .offset, .count], .part .h, .part .offset, .part .count, .row [.h, .offset, .count], .part .h, .part .offset, .part .count, .ex (.pointer (some ⟨K, 0, none⟩)), .ex (.pointer (some ⟨K, 0, none⟩)), .ex (.pointer (some ⟨K, 26, none⟩)), .part .stable, .ex (.pointer (some ⟨K, 0, none⟩)), .ex (.pointer (some ⟨K, 0, none⟩)), .ex (.pointer (some ⟨K, 27, none⟩)), .part .data, .row [.h, .offset, .count, .stable, .data], .part .h, .part .name, .ex (.pointer (some ⟨K, 0, none⟩)), .ex (.pointer (some ⟨K, 0, none⟩)), .ex (.pointer (some ⟨K, 29, none⟩)), .part .how, .ex (.func (.func 49) #[] #[.pointer (some ⟨A0, 0, none⟩)]), .part .verf, .ones .verf, .part .howVerf, .ex (.func (.func 50) #[] #[.pointer (some ⟨A0, 0, none⟩)]), .part .set, .ones .set, .part .howSet, .row [.h, .name, .how, .howVerf, .howSet], .part .h, .part .name, .part .set, .row [.h, .name, .set], .part .h, .part .name, .part .set, .part .target, .row [.h, .name, .set, .target], .part .h, .part .name, .ex (.pointer (some ⟨K, 0, none⟩)), .ex (.pointer (some ⟨K, 0, none⟩)), .ex (.pointer (some ⟨K, 30, none⟩)), .part .kind, .ex (.func (.func 43) #[] #[.pointer (some ⟨A0, 0, none⟩)]), .nums [3, 4, 6, 7], .cond [3, 4, 6, 7], .part .set, .ones .set, .part .kindSet, .ex (.func (.func 43) #[] #[.pointer (some ⟨A0, 0, none⟩)]), .nums [3, 4], .cond [3, 4], .part .offset, .ones .offset, .part .kindOff, .row [.h, .name, .kind, .kindSet, .kindOff], .part .h, .part .name, .part .h2, .part .name2, .row [.h, .name, .h2, .name2], .part .h, .part .h2, .part .name2, .row [.h, .h2, .name2], .full [.h, .cookie, .verf, .count], .full [.h, .cookie, .verf, .count], .full [.h, .cookie, .verf, .count], .ex (.int .i64 4), .full [.h, .cookie, .verf, .count], .ex (.int .i64 4), .full [.h, .cookie, .verf, .count], .ex (.pointer (some ⟨K, 0, none⟩)), .ex (.pointer (some ⟨K, 0, none⟩)), .ex (.pointer (some ⟨K, 25, none⟩)), .part .max, .ones .max, .row [.h, .cookie, .verf, .count, .max], .mapv]
def kT (K A0 t : Nat) : Ka := (kL K A0)[t]?.getD .any
def nL : List (List Nat) := [[], [], [13], [67], [13], [68], [13], [69], [13], [70], [13], [71], [3], [8], [1], [74], [75], [1], [77], [78], [79], [80], [76, 81], [72, 73, 82], [83], [14], [84], [14], [85], [14], [86], [3], [1], [88], [89], [90], [87, 91], [92], [3], [9], [10], [93, 94, 95], [96], [3], [9], [10], [97, 98, 99], [100], [3], [9], [10], [1], [104], [105], [106], [1], [108], [109], [110], [101, 102, 103, 107, 111], [112], [3], [5], [1], [115], [116], [117], [1], [11], [120], [119, 121, 1], [1], [8], [124], [123, 125, 1], [113, 114, 118, 122, 126], [127], [3], [5], [8], [128, 129, 130], [131], [3], [5], [8], [7], [132, 133, 134, 135], [136], [3], [5], [1], [139], [140], [141], [12], [], [143, 144, 1], [8], [146], [145, 147, 1], [12], [], [149, 150, 1], [9], [152], [151, 153, 1], [137, 138, 142, 148, 154], [155], [3], [5], [4], [6], [156, 157, 158, 159], [160], [3], [4], [6], [161, 162, 163], [164], [15], [165], [15], [15], [167], [15], [169], [166, 168, 170], [1], [172], [173], [174], [175], [171, 176], [177], [66], [178]]
def nN (i : Nat) : List Nat := nL[i]?.getD []
def tL : List OpTy := [.mk, .ins 0, .oth, .ins 1, .oth, .ins 5, .oth, .ins 18, .oth, .ins 19, .oth, .ins 20, .oth, .oth, .oth, .oth, .oth, .oth, .oth, .oth, .oth, .oth, .oth, .oth, .ins 2, .oth, .ins 3, .oth, .ins 12, .oth, .ins 13, .oth, .oth, .oth, .oth, .oth, .oth, .ins 4, .oth, .oth, .oth, .oth, .ins 6, .oth, .oth, .oth, .oth, .ins 21, .oth, .oth, .oth, .oth, .oth, .oth, .oth, .oth, .oth, .oth, .oth, .oth, .ins 7, .oth, .oth, .oth, .oth, .oth, .oth, .oth, .oth, .oth, .oth, .oth, .oth, .oth, .oth, .oth, .ins 8, .oth, .oth, .oth, .oth, .ins 9, .oth, .oth, .oth, .oth, .oth, .ins 10, .oth, .oth, .oth, .oth, .oth, .oth, .oth, .oth, .oth, .oth, .oth, .oth, .oth, .oth, .oth, .oth, .oth, .oth, .oth, .ins 11, .oth, .oth, .oth, .oth, .oth, .ins 14, .oth, .oth, .oth, .oth, .ins 15, .oth, .ins 16, .oth, .oth, .oth, .oth, .oth, .oth, .oth, .oth, .oth, .oth, .oth, .oth, .ins 17, .oth, .oth]
def tT (i : Nat) : OpTy := tL[i]?.getD .oth
def iM (t : Nat) : Bool := t == 66 || (t == 178 || t == 2)
def iniR : List Nat := [1, 3, 4, 5, 6, 7, 8, 9, 10, 11, 12, 13, 14, 15]
theorem opsR_back : edgesBack opsR = true := by kernel_rfl
theorem opsR_dsts : dstsOk opsR 179 = true := by kernel_rfl
theorem opsR_guards : noGuards opsR = true := by kernel_rfl
theorem opsR_need : needOk opsR iniR nN = true := by kernel_rfl
theorem opsR_map : mapOk opsR tT iM = true := by kernel_rfl
theorem opsR_size : opsR.size = 136 := by kernel_rfl
theorem opsR_ini : (iniR.all fun t => (List.range opsR.size).all fun i => decide (dstOf opsR i ≠ some t)) = true := by kernel_rfl
end Go.Proofs.YtgmhapjidbdhnaaGreat
namespace Go.Proofs.YtgmhapjidbdhnaaGreat
open Go.RowKit
/-- What is to be shown of an operation. -/
def ROb (lo K A0 : Nat) (Q : Exit → Act → World → Prop) (i : Nat) (nd : List Nat) : Prop :=
  ∀ o, opsR[i]? = some o → ∀ (a : Act) (w : World), lo ≤ w.heap.size → (∀ t ∈ nd, KIs lo K A0 (kT K A0 t) (a.tmps.getD 66 undef) (a.tmps.getD t undef) w) →
    ∀ Kk : Act → World → Prop, (∀ v w', Below w.heap.size w w' → (∀ t, o.dst = some t → KIs lo K A0 (kT K A0 t) (a.tmps.getD 66 undef) v w') → Kk (a.put o.dst v) w') → Oper.wp Tryz.prog o a w Kk Q
section
variable {o : Oper} {a : Act} {w : World} {K : Act → World → Prop} {Q : Exit → Act → World → Prop}
theorem run_nums4 (ev : Operand → Value) (ho : o.op = .buildSlice 100 4 #[(0, .const (.int .u32 3)), (1, .const (.int .u32 4)), (2, .const (.int .u32 6)), (3, .const (.int .u32 7))]) (hev : ∀ v, ev (.const v) = v) : (execOp ev o).run Tryz.prog w = .ok (.value (.slice (some ⟨w.heap.size, 0, none⟩) 4 4)) (w.alloc (.cells #[.int .u32 3, .int .u32 4, .int .u32 6, .int .u32 7] 22)) := by
  simp only [execOp, ho]
  simp [go_sem, hev, Result.andThen]
theorem run_nums2 (ev : Operand → Value) (ho : o.op = .buildSlice 100 2 #[(0, .const (.int .u32 3)), (1, .const (.int .u32 4))]) (hev : ∀ v, ev (.const v) = v) : (execOp ev o).run Tryz.prog w = .ok (.value (.slice (some ⟨w.heap.size, 0, none⟩) 2 2)) (w.alloc (.cells #[.int .u32 3, .int .u32 4] 22)) := by
  simp only [execOp, ho]
  simp [go_sem, hev, Result.andThen]
theorem run_len (ev : Operand → Value) {x : Operand} {b : Nat} (hx : ev x = .slice (some ⟨b, 0, none⟩) 4 4) (ho : o.op = .call { callee := .builtin .len, args := #[x], argTypes := #[62] }) : (execOp ev o).run Tryz.prog w = .ok (.value (.int .i64 4)) w := by
  simp only [execOp, ho, resolve]
  simp [go_sem, hx, invoke, builtin, Result.andThen]
theorem run_cut4 (ev : Operand → Value) {x y z : Operand} {b : Nat} (hx : ev x = .slice (some ⟨b, 0, none⟩) 4 4) (hy : ev y = .int .i64 4) (hz : ev z = .int .i64 4) (ho : o.op = .slice 62 x none (some y) (some z)) : (execOp ev o).run Tryz.prog w = .ok (.value (.slice (some ⟨b, 0, none⟩) 4 4)) w := by
  simp only [execOp, ho]
  simp [go_sem, hx, hy, hz, Result.andThen]
set_option maxRecDepth 20000 in
theorem op_append_part {s x : Operand} {b n4 : Nat} {olds : List Value} {fv : Value} {xv : Value} (ho : o.op = .call { callee := .builtin .append, args := #[s, x], argTypes := #[62, 62] })
    (hs : a.eval s = .slice (some ⟨b, 0, none⟩) n4 n4) (hx : a.eval x = xv) (h1 : ∀ j u, olds[j]? = some u → w.cell? ⟨b, j, none⟩ = some u) (h2 : PL w xv [fv]) (hn : olds.length = n4) (hl : olds.length ≤ 900) (hl2 : True)
    (h : ∀ c w', Below w.heap.size w w' → PL w' (.slice (some ⟨w.heap.size, 0, none⟩) (olds ++ [fv]).length c) (olds ++ [fv]) → K (a.put o.dst (.slice (some ⟨w.heap.size, 0, none⟩) (olds ++ [fv]).length c)) w') : Oper.wp Tryz.prog o a w K Q := by
  subst hn
  rcases h2 with ⟨_, h⟩ | ⟨b2, off, c2, rfl, _, _, hc⟩
  · cases h
  · have hi := info_part
    obtain ⟨i0, hi, hz⟩ : ∃ i0, Tryz.prog.info? 87 = some i0 ∧ (i0.zero.isSome, i0.size, i0.bytes) = (true, 1, 8) := by
      cases he : Tryz.prog.info? 87 with
      | none => rw [he] at hi; cases hi
      | some i0 => rw [he] at hi; exact ⟨i0, rfl, by simpa using hi⟩
    simp only [Prod.mk.injEq] at hz
    obtain ⟨z, hz0⟩ := Option.isSome_iff_exists.1 hz.1
    have hr := run_append_grow (P := Tryz.prog) w 62 o.type 87 i0 z Tryz.underlying62 hi hz0 ⟨b, 0, none⟩ olds.length olds.length olds (by rw [hz.2.1]; omega) (fun j u hu => by rw [Addr.add_lit, Nat.zero_add]; exact h1 j u hu) ⟨b2, off, none⟩ 1 c2 [fv] (by rw [hz.2.1]; rfl) (fun j u hu => by
      match j, hu with
      | 0, hu => injection hu with hu; subst hu; rw [Addr.add_lit]; exact hc 0 (by simp)) (by omega) (by omega) (growslice_fits (by omega) (by rw [hz.2.2]; omega))
    refine Lib.wp_append_run w s x _ _ ho _ _ hs hx _ _ hr ?_
    have e : olds.length + 1 = (olds ++ [fv]).length := by simp
    rw [e]
    refine h _ _ (by (with_reducible (repeat' (first | exact Below.refl _ _ | assumption | apply bl_alloc | apply bl_drewN | apply bl_drew | refine bl_set ?_ ?_ _))) <;> (first | done | (simp; done) | (simp; omega) | omega)) (.inr ⟨w.heap.size, 0, _, rfl, by rw [List.length_append, List.length_singleton]; omega, by simp, fun j hj => ?_⟩)
    rw [List.length_append] at hj
    rw [Nat.zero_add]
    have hh : (w.drew.alloc (.cells (olds.toArray ++ [fv].toArray ++ Builtin.zeroCells z.cells (grownCap w (olds ++ [fv]).length olds.length 87 - (olds ++ [fv]).length)) 87)).heap[w.heap.size]? = _ := heap_alloc_new w.drew _
    unfold World.cell?
    simp only [hh]
    have e : (olds.toArray ++ [fv].toArray ++ Builtin.zeroCells z.cells (grownCap w (olds ++ [fv]).length olds.length 87 - (olds ++ [fv]).length))[j]? = some (olds ++ [fv])[j] := by
      rw [Array.getElem?_append_left (by simp at hj ⊢; omega)]
      simp [hj]
    exact e
theorem op_callv {f : Nat} {c : Array Value} {v x : Operand} {ts : Array TypeId} {post : Ending → World → Prop} (hf : Enters Tryz.prog f) (ho : o.op = .call { callee := .value v, args := #[x], argTypes := ts }) (hv : a.eval v = .func (.func f) #[] c) (hc : Calls Tryz.prog f (#[a.eval x] ++ c) w post) (hp : ∀ e w', post e w' → ∃ v, e = .returned v ∧ K (a.put o.dst v) w') : Oper.wp Tryz.prog o a w K Q :=
  op_enter (args := #[a.eval x] ++ c) (by
    have e := hf (#[a.eval x] ++ c) w
    generalize hg : a.eval = ev at *
    simp only [execOp, ho, resolve, hv]
    simp only [Deferred.ofValue]
    simp [go_sem, invoke, Result.andThen]
    simpa using e) hc hp
end
theorem Nums.isSlice {w : World} {lo : Nat} {v : Value} {ns : List Nat} (h : Nums w lo v ns) : ∃ A n c, v = .slice A n c := by
  obtain ⟨b, c, e, _⟩ := h
  exact ⟨_, _, _, e⟩
theorem kind_mk {A0 : Nat} {w : World} {v : Value} (hv : ∃ A n c, v = .slice A n c) : Calls Tryz.prog 43 (#[v] ++ #[.pointer (some ⟨A0, 0, none⟩)]) w fun e w' => ∃ fv, e = .returned fv ∧ Below w.heap.size w w' ∧ ∃ L, fv = .func (.func 44) #[] #[.pointer (some ⟨L, 0, none⟩), .pointer (some ⟨A0, 0, none⟩)] ∧ Bx w' w.heap.size L v := by
  obtain ⟨A, n, c, rfl⟩ := hv
  show Calls Tryz.prog 43 #[.slice A n c, .pointer (some ⟨A0, 0, none⟩)] w _
  go_enter Tryz.func43, Tryz.ntmps43
  go_wp2
  go_ret
  exact ⟨_, rfl, by (with_reducible (repeat' (first | exact Below.refl _ _ | assumption | apply bl_alloc | apply bl_drewN | apply bl_drew | refine bl_set ?_ ?_ _))) <;> (first | done | (simp; done) | (simp; omega) | omega), _, rfl, ⟨Nat.le_refl _, by simp, by simp [go_sem]⟩⟩
end Go.Proofs.YtgmhapjidbdhnaaGreat

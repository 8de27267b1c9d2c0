/- words.put, by a range over the iterator words.bytes: what it makes, in plain Calls. -/
import Derived.RangeFuncNested
import Derived.RangeFuncBound
import Derived.RangeFuncCalls
import Derived.RangeFuncLeaves
import Derived.RangeFuncBox
import Derived.Shelf.Abstract
import Derived.WalkKit
import Derived.OwnWalkIn
import Derived.TacticsInMore
import Derived.LoopNIn
import Derived.LoopIn
import Derived.Maps.AppendAt
import Derived.Test.YtkaapdnjlmceoabDoorProg
import Derived.Test.YtkaapdnjlmceoabDoorPure
set_option linter.unusedVariables false
set_option linter.unusedSimpArgs false
namespace Go.Proofs.YtkaapdnjlmceoabDoor
open Go.RowKit Go.Shelf
attribute [local go_sem] Oper.semAt_some

/-- The bytes of a number, the highest first. -/
def bts (n many : Nat) : List UInt8 := (List.range many).map fun j => UInt8.ofNat (n / 256 ^ (many - 1 - j))
theorem bts_length (n many : Nat) : (bts n many).length = many := by simp [bts]
theorem bts_take_succ (n many k : Nat) (h : k < many) : (bts n many).take (k + 1) = (bts n many).take k ++ [UInt8.ofNat (n / 256 ^ (many - 1 - k))] := by
  rw [List.take_succ_eq_append_getElem (by rw [bts_length]; exact h)]
  simp [bts]

theorem byte_shift (N m : Nat) : ((UInt8.ofNat (N / 256 ^ m)).toNat : Int) = (N : Int) / 2 ^ (8 * m) % 256 := by
  have h2 : ((2 : Int) ^ (8 * m)) = ((256 ^ m : Nat) : Int) := by rw [Int.pow_mul]; simp
  rw [UInt8.toNat_ofNat', h2, show (2 : Nat) ^ 8 = 256 by decide]
  omega
/-- Two blocks lie as they lay. -/
def Two (a b : Nat) (W W' : World) : Prop := W'.heap[a]? = W.heap[a]? ∧ W'.heap[b]? = W.heap[b]?
theorem Two.t {a b : Nat} {A B C : World} (h : Two a b A B) (k : Two a b B C) : Two a b A C := ⟨k.1.trans h.1, k.2.trans h.2⟩
theorem Two.b {a b : Nat} {w : World} (ha : a < w.heap.size) (hb : b < w.heap.size) (W : World) (l : Nat) (o o' : Obj) (hl : w.heap.size ≤ l) (h : W.heap[l]? = some o) (_ : o.isCells = false) (_ : o.isWalk = false) : Two a b W (W.putObj l o') :=
  ⟨World.putObj_heap_other (by omega), World.putObj_heap_other (by omega)⟩
def encB (x : UInt8) : Array Value := #[.int .u8 x.toNat]

set_option maxRecDepth 100000 in
set_option maxHeartbeats 1000000 in
theorem bytes1_in (F : Fence) (n : Nat) (h6 : F.fn 79) (hro : F.round = none) (hn : 1 ≤ n) (l Bm Bn : Nat) (N many : Nat) (hN : N < 18446744073709551616) (hm : many = 4 ∨ many = 8) (J Jx : List UInt8 → World → Prop)
    (hY : ∀ pre x W, J pre W → pre.length < (bts N many).length → YieldAt F (n - 1) Tryd.prog l (encB x) W fun e W' =>
      (e = .returned (.bool true) ∧ J (pre ++ [x]) W' ∧ Two Bm Bn W W') ∨ (e = .returned (.bool false) ∧ Jx (pre ++ [x]) W'))
    (W : World) (hBm : W.cell? ⟨Bm, 0, none⟩ = some (.int .i64 many)) (hBn : W.cell? ⟨Bn, 0, none⟩ = some (.int .u64 N)) (h0 : J [] W) :
    CallsIn F n Tryd.prog 79 #[.func (.yield l) #[] #[], .pointer (some ⟨Bm, 0, none⟩), .pointer (some ⟨Bn, 0, none⟩)] W fun e W' => (∃ v, e = .returned v) ∧
      ((∃ ys, ys = bts N many ∧ J ys W') ∨ (∃ pre, pre <+: bts N many ∧ Jx pre W')) := by
  refine callsIn_of_wp Tryd.func79 rfl h6 ?_ hro
  simp only [Tryd.ntmps79, List.size_toArray, List.length_cons, List.length_nil, Nat.reduceAdd, Nat.reduceSub, Array.replicate_succ, Array.replicate_zero, List.push_toArray, List.append_toArray, List.nil_append, List.cons_append]
  have hm8 : many ≤ 8 := by omega
  have hm1 : 1 ≤ many := by omega
  gi_wp2
  gi_loopw [4] (fun p wr => ∃ k : Nat, k ≤ many ∧ p = .int .i64 ((many : Int) - 1 - k) ∧ J ((bts N many).take k) wr ∧ wr.cell? ⟨Bm, 0, none⟩ = some (.int .i64 many) ∧ wr.cell? ⟨Bn, 0, none⟩ = some (.int .u64 N))
    (fun p wr => (intOf p + 1).toNat)
  case atStart =>
    exact ⟨0, by omega, by simp, by simpa using h0, hBm, hBn⟩
  case round =>
    obtain ⟨k, hk, rfl, hJ, hBm, hBn⟩ := hrel
    by_cases hlt : k < many
    · obtain ⟨fn, tmps, assign, body, hy, hR⟩ := hY ((bts N many).take k) (UInt8.ofNat (N / 256 ^ (many - 1 - k))) wr hJ (by rw [List.length_take, bts_length]; omega)
      dsimp only [encB] at hy
      rw [byte_shift] at hy
      gi_wp2
      refine hR.mono ?_
      rintro e W3 (⟨rfl, hJ3, hk3⟩ | ⟨rfl, hJx3⟩)
      · have hm3 : W3.cell? ⟨Bm, 0, none⟩ = some (.int .i64 many) := (World.cell?_of_block (a := ⟨Bm, 0, none⟩) hk3.1).trans hBm
        have hn3 : W3.cell? ⟨Bn, 0, none⟩ = some (.int .u64 N) := (World.cell?_of_block (a := ⟨Bn, 0, none⟩) hk3.2).trans hBn
        gi_wp2
        go_roundw
        case rel => exact ⟨k + 1, by omega, by congr 1; omega, by rw [bts_take_succ _ _ _ hlt]; exact hJ3, hm3, hn3⟩
        case measure => simp [intOf]; omega
      · gi_wp2
        refine bodyPost_ret (results_none rfl _ _ _) rfl ?_
        exact ⟨⟨_, rfl⟩, .inr ⟨_, by rw [← bts_take_succ _ _ _ hlt]; exact List.take_prefix _ _, hJx3⟩⟩
    · obtain rfl : k = many := by omega
      gi_wp2
      go_end0
      exact ⟨⟨_, rfl⟩, .inl ⟨_, rfl, by rw [List.take_of_length_le (by rw [bts_length]; omega)] at hJ; exact hJ⟩⟩

set_option maxHeartbeats 1000000 in
theorem bytes_in (F : Fence) (n : Nat) (h5 : F.fn 77) (hro : F.round = none) (N many : Nat) (w : World) :
    CallsIn F n Tryd.prog 77 #[.int .u64 N, .int .i64 many] w fun e w' => e = .returned (.func (.func 79) #[] #[.pointer (some ⟨w.heap.size + 1, 0, none⟩), .pointer (some ⟨w.heap.size, 0, none⟩)]) ∧
      w' = (w.alloc (.cells #[.int .u64 N] 22)).alloc (.cells #[.int .i64 many] 3) := by
  refine callsIn_of_wp Tryd.func77 rfl h5 ?_ hro
  simp only [Tryd.ntmps77, List.size_toArray, List.length_cons, List.length_nil, Nat.reduceAdd, Nat.reduceSub, Array.replicate_succ, Array.replicate_zero, List.push_toArray, List.append_toArray, List.nil_append, List.cons_append]
  gi_wp2
  go_ret
  exact ⟨rfl, rfl⟩

theorem bytes_stops (F : Fence) (n : Nat) (h6 : F.fn 79) (hro : F.round = none) (hn : 1 ≤ n) (Bm Bn N many : Nat) (hN : N < 18446744073709551616) (hm : many = 4 ∨ many = 8) (w : World) (hlm : Bm < w.heap.size) (hln : Bn < w.heap.size)
    (hBm : w.cell? ⟨Bm, 0, none⟩ = some (.int .i64 many)) (hBn : w.cell? ⟨Bn, 0, none⟩ = some (.int .u64 N)) :
    SeqStopsK F n Tryd.prog 79 #[.pointer (some ⟨Bm, 0, none⟩), .pointer (some ⟨Bn, 0, none⟩)] encB (Two Bm Bn) (fun ys => ys = bts N many) (fun pre => pre <+: bts N many) (bts N many).length w := fun l J Jx W hW _ _ hY h0 =>
  bytes1_in F n h6 hro hn l Bm Bn N many hN hm J Jx hY W ((hW.cell (p := ⟨Bm, 0, none⟩) hlm).trans hBm) ((hW.cell (p := ⟨Bn, 0, none⟩) hln).trans hBn) h0

theorem info_u8 : (Tryd.prog.info? 5).map (fun i => (i.zero, i.size, i.bytes)) = some (some (.int .u8 0), 1, 1) := by kernel_rfl

def u8s (l : List UInt8) : List Value := l.map fun x => .int .u8 x.toNat
theorem u8s_length (l : List UInt8) : (u8s l).length = l.length := by simp [u8s]
theorem u8s_append (l m : List UInt8) : u8s (l ++ m) = u8s l ++ u8s m := by simp [u8s]

set_option maxRecDepth 100000 in
set_option maxHeartbeats 2000000 in
theorem put_in (F : Fence) (n : Nat) (h3 : F.fn 60) (h4 : F.fn 77) (h5 : F.fn 79) (hro : F.round = none) (hn : 3 ≤ n) (N many : Nat) (hN : N < 18446744073709551616) (hm : many = 4 ∨ many = 8) (w : World) :
    CallsIn F n Tryd.prog 60 #[.int .u64 N, .int .i64 many] w fun e W' => ∃ v, e = .returned v ∧ W'.ownsRow w.heap.size 5 1 v (bts N many).length (u8s (bts N many)) ∧ Below w.heap.size w W' := by
  have h1 : 1 ≤ n := by omega
  obtain ⟨i0, hi, hz0, hz1, hz2⟩ := info_parts info_u8
  refine callsIn_of_wp_marks Tryd.func60 rfl h3 ?_ hro
  simp only [Tryd.ntmps60, List.size_toArray, List.length_cons, List.length_nil, Nat.reduceAdd, Nat.reduceSub, Array.replicate_succ, Array.replicate_zero, List.push_toArray, List.append_toArray, List.nil_append, List.cons_append]
  gi_wp2_with (gi_at_call 77; refine (bytes_in F (n - 1) h4 hro _ _ _).mono ?_; rintro e w' ⟨rfl, rfl⟩)
  have bO := Boxed.new w 31 (.slice none 0 0)
  have bN := Boxed.new (w.alloc (.cells #[.slice none 0 0] 31)) 22 (.int .u64 N)
  rw [World.size_alloc] at bN
  have bM := Boxed.new ((w.alloc (.cells #[.slice none 0 0] 31)).alloc (.cells #[.int .u64 N] 22)) 3 (.int .i64 many)
  rw [World.size_alloc, World.size_alloc] at bM
  have hB0 : Below w.heap.size w (((w.alloc (.cells #[.slice none 0 0] 31)).alloc (.cells #[.int .u64 N] 22)).alloc (.cells #[.int .i64 many] 3)) := (((Below.refl _ w).alloc (Nat.le_refl _) _).alloc (by simp only [World.size_alloc]; omega) _).alloc (by simp only [World.size_alloc]; omega) _
  have hlen := bts_length N many
  refine wpIn_rangeFunc_ownG hro h1 (gf := 79) (lb := #[.pointer (some ⟨w.heap.size + 1 + 1, 0, none⟩), .pointer (some ⟨w.heap.size + 1, 0, none⟩)]) rfl h5 (enters_of Tryd.func79 (by kernel_rfl) rfl)
    (bytes_stops F (n - 1) h5 hro (by omega) (w.heap.size + 1 + 1) (w.heap.size + 1) N many hN hm _ (by simp only [World.size_alloc]; omega) (by simp only [World.size_alloc]; omega) bM.cell (bN.alloc _).cell) Two.t (Two.b (by simp only [World.size_alloc]; omega) (by simp only [World.size_alloc]; omega)) (Below.refl _ _) (fun _ => rfl)
    (fun pre W => (∃ v, Boxed W w.heap.size 31 v ∧ W.ownsRow w.heap.size 5 1 v pre.length (u8s pre) ∧ (v = .slice none 0 0 ↔ pre = [])) ∧ Below w.heap.size w W ∧ Boxed W (w.heap.size + 1) 22 (.int .u64 N) ∧ Boxed W (w.heap.size + 1 + 1) 3 (.int .i64 many))
    (fun _ _ _ => False)
    (OwnFrom.and (Own.from (holdsRow_own w.heap.size w.heap.size 31 5 1 (fun pre => pre.length) (fun pre => u8s pre) (fun pre v => v = .slice none 0 0 ↔ pre = [])) _) (OwnFrom.and (ownFrom_below (Nat.le_refl _) (by simp only [World.size_alloc]; omega)) (OwnFrom.and (Own.from (boxed_own _ _ _) _) (Own.from (boxed_own _ _ _) _))))
    (fun _ _ _ _ _ hs _ _ => hs)
    ⟨⟨_, (bO.alloc _).alloc _, World.ownsRow_nil _ _ _ _, by simp⟩, hB0, bN.alloc _, bM⟩
    (fun x => { tmps := #[.int .u64 N, .int .i64 many, undef, undef, .pointer (some ⟨w.heap.size, 0, none⟩), .int .u8 x.toNat, .int .u64 N, .int .i64 many, .func (.func 79) #[] #[.pointer (some ⟨w.heap.size + 1 + 1, 0, none⟩), .pointer (some ⟨w.heap.size + 1, 0, none⟩)], .int .u8 x.toNat, undef, undef, undef, undef, undef], defers := [] }) ?assign ?body ?done ?stop
  case assign =>
    intro l x W K hK
    simp only [encB]
    gi_wp2
    exact hK
  case body =>
    rintro l pre x W ⟨⟨v, hv, hrow, hnil⟩, hB, xN, xM⟩ hlt
    have hc := hv.cell
    rw [hlen] at hlt
    have hm8 : many ≤ 8 := by omega
    clear hlen
    gi_wp2_with (gi_at_builtin; refine wpListIn_append_own _ rfl _ _ 31 rfl w.heap.size 5 i0 (.int .u8 0) 1 1 Tryd.underlying31 hi hz0 hz1 hz2 rfl (by decide) _ _ _ rfl (hrow.alloc _) ⟨W.heap.size, 0, none⟩ 1 1 [.int .u8 x.toNat] rfl rfl (cell_one_new _ _ _) (by simp [Value.oneCell']) (by unfold maxLen; omega) (by omega) (by have := hB.size; simp; omega) ?_; intro v' w1 hown' hgrow _; obtain ⟨g', cap', rfl⟩ := ownsRow_succ hown'; obtain ⟨hv1, hv2, hr2, hk2, hb2⟩ := hv.appended (by decide) hrow hB.size (Nat.le_refl _) hown' hgrow; have hN1 := ((xN.alloc (.cells #[.int .u8 x.toNat] 5)).kept hgrow (xN.not_row (by decide) hrow)).kept (grownBy_setCell' w1 w.heap.size (.slice (some ⟨g', 0, none⟩) (pre.length + 1) cap')) (by simp only [ne_eq, Option.some.injEq]; omega); have hM1 := ((xM.alloc (.cells #[.int .u8 x.toNat] 5)).kept hgrow (xM.not_row (by decide) hrow)).kept (grownBy_setCell' w1 w.heap.size (.slice (some ⟨g', 0, none⟩) (pre.length + 1) cap')) (by simp only [ne_eq, Option.some.injEq]; omega); have hc1 := hv1.cell; have hf1 := hv1.frozen)
    exact ⟨hk2.from _, ⟨hM1.trans xM.symm, hN1.trans xN.symm⟩, ⟨_, hv2, by rw [u8s_append]; simpa [u8s] using hr2, by simp⟩, hB.trans hb2, hN1, hM1⟩
  case done =>
    rintro D ys W hD rfl ⟨⟨v, hv, hrow, hnil⟩, hB, xN, xM⟩ hK
    have hex : ∃ A l c, v = .slice A l c := by
      rcases hrow.2 with ⟨rfl, _⟩ | ⟨g, cap, cur, rfl, _⟩
      · exact ⟨_, _, _, rfl⟩
      · exact ⟨_, _, _, rfl⟩
    obtain ⟨A, l, c, rfl⟩ := hex
    have hc := hv.cell
    have hf := hv.frozen
    gi_wp2
    have hK' := (KeepsOthers.setCell W ⟨w.heap.size, 0, none⟩ (.slice A l c)).same D _ hK rfl
    have hv' := hv.set (.slice A l c)
    have hB' := hB.setCell (p := ⟨w.heap.size, 0, none⟩) (Nat.le_refl _) (.slice A l c)
    have hrow' := hrow.kept (grownBy_setCell' W w.heap.size (.slice A l c)) (.inr (hv.not_row (by decide) hrow).symm)
    refine ⟨by simp, .inl ⟨_, _, rfl, run_takeDeferred hK', ?_⟩⟩
    have hv2 := hv'.kept (grownBy_putObj' _ D (.deferred none)) (by intro e; cases e; have h1 : Boxed _ _ _ _ := hv'; unfold Boxed at h1; rw [h1] at hK'; cases hK')
    have hc2 := hv2.cell
    refine ⟨.slice A l c, ?_, _, rfl, ownsRow_putObj hrow' _ hK' rfl, hB'.trans (belowK_b (w := w) (Nat.le_refl _) _ D _ _ (by simp only [World.size_alloc] at hD; omega) hK' rfl rfl)⟩
    simp [results, Tryd.results60, go_sem, hc2]
  case stop =>
    rintro D c pre W _ _ h _
    exact h.elim

theorem bts4 (n : Nat) : bts n 4 = put4 n := by
  simp [bts, put4, List.range_succ]
theorem bts8 (n : Nat) : bts n 8 = put8 n := by
  simp [bts, put8, put4, List.range_succ, Nat.div_div_eq_div_mul]

/-- words.put, in plain Calls. -/
theorem put_calls (N many : Nat) (hN : N < 18446744073709551616) (hm : many = 4 ∨ many = 8) (w : World) :
    Calls Tryd.prog 60 #[.int .u64 N, .int .i64 many] w fun e W' => ∃ v, e = .returned v ∧ W'.ownsRow w.heap.size 5 1 v (bts N many).length (u8s (bts N many)) ∧ Below w.heap.size w W' :=
  callsIn_wide.1 (put_in Fence.wide 3 trivial trivial trivial rfl (by omega) N many hN hm w)

end Go.Proofs.YtkaapdnjlmceoabDoor

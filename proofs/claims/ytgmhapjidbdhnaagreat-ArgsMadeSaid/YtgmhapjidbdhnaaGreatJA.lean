/- Plain definitions: what is told of a node, what is to be set, what was told ahead and behind. No program in sight. -/
import Derived.WalkKit
import Derived.Lib.Hide
import Derived.RangeFuncNested
import Derived.RangeFuncBound
import Derived.RangeFuncCalls
import Derived.RangeFuncLeaves
import Derived.RangeFuncBox
import Derived.Shelf.Abstract
import Derived.OwnWalkIn
import Derived.TacticsInMore
import Derived.LoopNIn
import Derived.LoopIn
import Derived.Maps.AppendAt
import Derived.Test.YtgmhapjidbdhnaaGreatProg
import Derived.WalkSpells
import Derived.WalkLawsBesides
import Derived.Outline
import Derived.Test.YtgmhapjidbdhnaaGreatRows
import Derived.ProofKit
import Derived.OpenShut
import Derived.ChangeOld
import Derived.Below
import Derived.Recover
import Derived.Deep.QuietTactic
import Derived.BigQuiet
import Derived.StillTailTactics
set_option linter.unusedVariables false
set_option linter.unusedSimpArgs false
namespace Go.Proofs.YtgmhapjidbdhnaaGreat
open Go.RowKit

/-! ### bytes and numbers -/
def beN (l : List UInt8) : Nat := l.foldl (fun n c => 256 * n + c.toNat) 0
theorem beN_snoc (l : List UInt8) (c : UInt8) : beN (l ++ [c]) = 256 * beN l + c.toNat := by simp [beN]
theorem beN_acc (l : List UInt8) : ∀ a : Nat, l.foldl (fun n c => 256 * n + c.toNat) a = a * 256 ^ l.length + beN l := by
  induction l with
  | nil => intro a; simp [beN]
  | cons c l ih =>
    intro a
    have h0 := ih (256 * a + c.toNat)
    have h1 := ih (256 * 0 + c.toNat)
    simp only [beN, List.foldl_cons, List.length_cons, Nat.pow_succ] at *
    rw [h0, h1, Nat.add_mul, Nat.add_mul, Nat.mul_comm 256 a, Nat.mul_assoc, Nat.mul_comm 256 (256 ^ l.length)]
    omega
theorem beN_lt (l : List UInt8) : beN l < 256 ^ l.length := by
  induction l with
  | nil => simp [beN]
  | cons c l ih =>
    have h := beN_acc l (256 * 0 + c.toNat)
    have := c.toNat_lt
    have e : beN (c :: l) = (256 * 0 + c.toNat) * 256 ^ l.length + beN l := by rw [← h]; simp [beN]
    rw [e, List.length_cons, Nat.pow_succ, Nat.mul_zero, Nat.zero_add]
    have : c.toNat * 256 ^ l.length ≤ 255 * 256 ^ l.length := Nat.mul_le_mul_right _ (by omega)
    omega
theorem beN_take_succ (l : List UInt8) (k : Nat) (h : k < l.length) : beN (l.take (k + 1)) = 256 * beN (l.take k) + (l.getD k 0).toNat := by
  rw [List.take_succ_eq_append_getElem h, beN_snoc]
  simp [h]
def put4 (n : Nat) : List UInt8 := [UInt8.ofNat (n / 16777216), UInt8.ofNat (n / 65536), UInt8.ofNat (n / 256), UInt8.ofNat n]
def put8 (n : Nat) : List UInt8 := put4 (n / 4294967296) ++ put4 n
@[simp] theorem put4_length (n : Nat) : (put4 n).length = 4 := rfl
@[simp] theorem put8_length (n : Nat) : (put8 n).length = 8 := rfl
theorem beN_put4 (n : Nat) : beN (put4 n) = n % 4294967296 := by
  simp only [beN, put4, List.foldl, UInt8.toNat_ofNat']
  omega
theorem put4_mod (n : Nat) : put4 (n % 4294967296) = put4 n := by
  have h : ∀ m k : Nat, m % 256 = k % 256 → UInt8.ofNat m = UInt8.ofNat k := fun m k h => UInt8.toNat.inj (by simpa using h)
  unfold put4
  rw [h (n % 4294967296 / 16777216) (n / 16777216) (by omega), h (n % 4294967296 / 65536) (n / 65536) (by omega), h (n % 4294967296 / 256) (n / 256) (by omega), h (n % 4294967296) n (by omega)]
theorem put4_beN (l : List UInt8) (h : l.length = 4) : put4 (beN l) = l := by
  match l, h with
  | [a, b, c, d], _ =>
    have ha := a.toNat_lt; have hb := b.toNat_lt; have hc := c.toNat_lt; have hd := d.toNat_lt
    have e : beN [a, b, c, d] = 16777216 * a.toNat + 65536 * b.toNat + 256 * c.toNat + d.toNat := by simp only [beN, List.foldl]; omega
    have k : ∀ (m : Nat) (x : UInt8), m % 256 = x.toNat → UInt8.ofNat m = x := fun m x h => UInt8.toNat.inj (by simpa using h)
    rw [put4, e, k _ a (by omega), k _ b (by omega), k _ c (by omega), k _ d (by omega)]
theorem beN_append (l m : List UInt8) : beN (l ++ m) = beN l * 256 ^ m.length + beN m := by
  rw [← beN_acc m (beN l)]
  simp [beN]
theorem beN_put8 (n : Nat) : beN (put8 n) = n % 18446744073709551616 := by
  rw [put8, beN_append, beN_put4, beN_put4, put4_length]
  have : (256 : Nat) ^ 4 = 4294967296 := by decide
  rw [this]; omega
theorem put8_beN (l : List UInt8) (h : l.length = 8) : put8 (beN l) = l := by
  have h1 : (l.take 4).length = 4 := by simp [h]
  have h2 : (l.drop 4).length = 4 := by simp [h]
  have e : l = l.take 4 ++ l.drop 4 := (List.take_append_drop 4 l).symm
  have b1 := beN_lt (l.take 4)
  have b2 := beN_lt (l.drop 4)
  have c : beN l = beN (l.take 4) * 4294967296 + beN (l.drop 4) := by
    conv => lhs; rw [e]
    rw [beN_append, h2]
  have p4 : (256 : Nat) ^ 4 = 4294967296 := by decide
  rw [h1, p4] at b1
  rw [h2, p4] at b2
  rw [put8, c, show (beN (l.take 4) * 4294967296 + beN (l.drop 4)) / 4294967296 = beN (l.take 4) by omega, put4_beN _ h1]
  rw [← put4_mod, show (beN (l.take 4) * 4294967296 + beN (l.drop 4)) % 4294967296 = beN (l.drop 4) by omega, put4_beN _ h2, List.take_append_drop]

/-! ### parsers: a value and how many bytes it had, or an error's number -/
abbrev Ps (α : Type) := List UInt8 → Except Int (α × Nat)
namespace Ps
def pure {α : Type} (a : α) : Ps α := fun _ => .ok (a, 0)
def bind {α β : Type} (p : Ps α) (f : α → Ps β) : Ps β := fun b =>
  match p b with
  | .error e => .error e
  | .ok (a, k) => match f a (b.drop k) with
    | .error e => .error e
    | .ok (x, m) => .ok (x, k + m)
def need (c : Bool) (e : Int) : Ps Unit := fun _ => if c then .ok ((), 0) else .error e
theorem bind_ok {α β : Type} {p : Ps α} {f : α → Ps β} {b : List UInt8} {a : α} {k : Nat} (h : p b = .ok (a, k)) :
    bind p f b = match f a (b.drop k) with | .error e => .error e | .ok (x, m) => .ok (x, k + m) := by simp [bind, h]
theorem bind_ok_ok {α β : Type} {p : Ps α} {f : α → Ps β} {b : List UInt8} {a : α} {k : Nat} {x : β} {m : Nat} (h : p b = .ok (a, k)) (h' : f a (b.drop k) = .ok (x, m)) :
    bind p f b = .ok (x, k + m) := by simp [bind, h, h']
theorem bind_error {α β : Type} {p : Ps α} {f : α → Ps β} {b : List UInt8} {e : Int} (h : p b = .error e) : bind p f b = .error e := by simp [bind, h]
theorem bind_ok_error {α β : Type} {p : Ps α} {f : α → Ps β} {b : List UInt8} {a : α} {k : Nat} {e : Int} (h : p b = .ok (a, k)) (h' : f a (b.drop k) = .error e) :
    bind p f b = .error e := by simp [bind, h, h']
end Ps

def pNum : Ps Nat := fun b => if b.length < 4 then .error 4 else .ok (beN (b.take 4), 4)
def pLong : Ps Nat := fun b => if b.length < 8 then .error 4 else .ok (beN (b.take 8), 8)
def pYes : Ps Bool := fun b => if b.length < 4 then .error 4 else if beN (b.take 4) > 1 then .error 5 else .ok (beN (b.take 4) == 1, 4)
structure Tm where
  sec : Nat
  nano : Nat
  deriving DecidableEq
def pTime : Ps Tm := fun b => if b.length < 8 then .error 4 else if beN (b.take 8) % 4294967296 < 1000000000 then .ok (⟨beN (b.take 8) / 4294967296, beN (b.take 8) % 4294967296⟩, 8) else .error 5
def putYes (b : Bool) : List UInt8 := put4 (if b then 1 else 0)

end Go.Proofs.YtgmhapjidbdhnaaGreat
namespace Go.Proofs.YtgmhapjidbdhnaaGreat
open Go.RowKit Go.Shelf
attribute [local go_sem] Oper.semAt_some

/-- The bytes of a number, the highest first. -/
def bts (n many : Nat) : List UInt8 := (List.range many).map fun j => UInt8.ofNat (n / 256 ^ (many - 1 - j))
theorem bts_length (n many : Nat) : (bts n many).length = many := by simp [bts]
theorem bts_take_succ (n many k : Nat) (h : k < many) : (bts n many).take (k + 1) = (bts n many).take k ++ [UInt8.ofNat (n / 256 ^ (many - 1 - k))] := by
  rw [List.take_succ_eq_append_getElem (by rw [bts_length]; exact h)]
  simp [bts]

theorem byte_shift (N m : Nat) : ((UInt8.ofNat (N / 256 ^ m)).toNat : Int) = (N : Int) / 2 ^ (8 * m) % 256 := by
  have h2 : ((2 : Int) ^ (8 * m)) = ((256 ^ m : Nat) : Int) := by rw [Int.pow_mul]; simp
  rw [UInt8.toNat_ofNat', h2, show (2 : Nat) ^ 8 = 256 by decide]
  omega
/-- Two blocks lie as they lay. -/
def Two (a b : Nat) (W W' : World) : Prop := W'.heap[a]? = W.heap[a]? ∧ W'.heap[b]? = W.heap[b]?
theorem Two.t {a b : Nat} {A B C : World} (h : Two a b A B) (k : Two a b B C) : Two a b A C := ⟨k.1.trans h.1, k.2.trans h.2⟩
theorem Two.b {a b : Nat} {w : World} (ha : a < w.heap.size) (hb : b < w.heap.size) (W : World) (l : Nat) (o o' : Obj) (hl : w.heap.size ≤ l) (h : W.heap[l]? = some o) (_ : o.isCells = false) (_ : o.isWalk = false) : Two a b W (W.putObj l o') :=
  ⟨World.putObj_heap_other (by omega), World.putObj_heap_other (by omega)⟩
def encB (x : UInt8) : Array Value := #[.int .u8 x.toNat]

set_option maxRecDepth 100000 in
set_option maxHeartbeats 1000000 in
theorem bytes1_in (F : Fence) (n : Nat) (h6 : F.fn 89) (hro : F.round = none) (hn : 1 ≤ n) (l Bm Bn : Nat) (N many : Nat) (hN : N < 18446744073709551616) (hm : many = 4 ∨ many = 8) (J Jx : List UInt8 → World → Prop)
    (hY : ∀ pre x W, J pre W → pre.length < (bts N many).length → YieldAt F (n - 1) Tryz.prog l (encB x) W fun e W' =>
      (e = .returned (.bool true) ∧ J (pre ++ [x]) W' ∧ Two Bm Bn W W') ∨ (e = .returned (.bool false) ∧ Jx (pre ++ [x]) W'))
    (W : World) (hBm : W.cell? ⟨Bm, 0, none⟩ = some (.int .i64 many)) (hBn : W.cell? ⟨Bn, 0, none⟩ = some (.int .u64 N)) (h0 : J [] W) :
    CallsIn F n Tryz.prog 89 #[.func (.yield l) #[] #[], .pointer (some ⟨Bm, 0, none⟩), .pointer (some ⟨Bn, 0, none⟩)] W fun e W' => (∃ v, e = .returned v) ∧
      ((∃ ys, ys = bts N many ∧ J ys W') ∨ (∃ pre, pre <+: bts N many ∧ Jx pre W')) := by
  refine callsIn_of_wp Tryz.func89 rfl h6 ?_ hro
  simp only [Tryz.ntmps89, List.size_toArray, List.length_cons, List.length_nil, Nat.reduceAdd, Nat.reduceSub, Array.replicate_succ, Array.replicate_zero, List.push_toArray, List.append_toArray, List.nil_append, List.cons_append]
  have hm8 : many ≤ 8 := by omega
  have hm1 : 1 ≤ many := by omega
  gi_wp2
  gi_loopw [4] (fun p wr => ∃ k : Nat, k ≤ many ∧ p = .int .i64 ((many : Int) - 1 - k) ∧ J ((bts N many).take k) wr ∧ wr.cell? ⟨Bm, 0, none⟩ = some (.int .i64 many) ∧ wr.cell? ⟨Bn, 0, none⟩ = some (.int .u64 N))
    (fun p wr => (intOf p + 1).toNat)
  case atStart =>
    exact ⟨0, by omega, by simp, by simpa using h0, hBm, hBn⟩
  case round =>
    obtain ⟨k, hk, rfl, hJ, hBm, hBn⟩ := hrel
    by_cases hlt : k < many
    · obtain ⟨fn, tmps, assign, body, hy, hR⟩ := hY ((bts N many).take k) (UInt8.ofNat (N / 256 ^ (many - 1 - k))) wr hJ (by rw [List.length_take, bts_length]; omega)
      dsimp only [encB] at hy
      rw [byte_shift] at hy
      gi_wp2
      refine hR.mono ?_
      rintro e W3 (⟨rfl, hJ3, hk3⟩ | ⟨rfl, hJx3⟩)
      · have hm3 : W3.cell? ⟨Bm, 0, none⟩ = some (.int .i64 many) := (World.cell?_of_block (a := ⟨Bm, 0, none⟩) hk3.1).trans hBm
        have hn3 : W3.cell? ⟨Bn, 0, none⟩ = some (.int .u64 N) := (World.cell?_of_block (a := ⟨Bn, 0, none⟩) hk3.2).trans hBn
        gi_wp2
        go_roundw
        case rel => exact ⟨k + 1, by omega, by congr 1; omega, by rw [bts_take_succ _ _ _ hlt]; exact hJ3, hm3, hn3⟩
        case measure => simp [intOf]; omega
      · gi_wp2
        refine bodyPost_ret (results_none rfl _ _ _) rfl ?_
        exact ⟨⟨_, rfl⟩, .inr ⟨_, by rw [← bts_take_succ _ _ _ hlt]; exact List.take_prefix _ _, hJx3⟩⟩
    · obtain rfl : k = many := by omega
      gi_wp2
      go_end0
      exact ⟨⟨_, rfl⟩, .inl ⟨_, rfl, by rw [List.take_of_length_le (by rw [bts_length]; omega)] at hJ; exact hJ⟩⟩

set_option maxHeartbeats 1000000 in
theorem bytes_in (F : Fence) (n : Nat) (h5 : F.fn 53) (hro : F.round = none) (N many : Nat) (w : World) :
    CallsIn F n Tryz.prog 53 #[.int .u64 N, .int .i64 many] w fun e w' => e = .returned (.func (.func 89) #[] #[.pointer (some ⟨w.heap.size + 1, 0, none⟩), .pointer (some ⟨w.heap.size, 0, none⟩)]) ∧
      w' = (w.alloc (.cells #[.int .u64 N] 25)).alloc (.cells #[.int .i64 many] 3) := by
  refine callsIn_of_wp Tryz.func53 rfl h5 ?_ hro
  simp only [Tryz.ntmps53, List.size_toArray, List.length_cons, List.length_nil, Nat.reduceAdd, Nat.reduceSub, Array.replicate_succ, Array.replicate_zero, List.push_toArray, List.append_toArray, List.nil_append, List.cons_append]
  gi_wp2
  go_ret
  exact ⟨rfl, rfl⟩

theorem bytes_stops (F : Fence) (n : Nat) (h6 : F.fn 89) (hro : F.round = none) (hn : 1 ≤ n) (Bm Bn N many : Nat) (hN : N < 18446744073709551616) (hm : many = 4 ∨ many = 8) (w : World) (hlm : Bm < w.heap.size) (hln : Bn < w.heap.size)
    (hBm : w.cell? ⟨Bm, 0, none⟩ = some (.int .i64 many)) (hBn : w.cell? ⟨Bn, 0, none⟩ = some (.int .u64 N)) :
    SeqStopsK F n Tryz.prog 89 #[.pointer (some ⟨Bm, 0, none⟩), .pointer (some ⟨Bn, 0, none⟩)] encB (Two Bm Bn) (fun ys => ys = bts N many) (fun pre => pre <+: bts N many) (bts N many).length w := fun l J Jx W hW _ _ hY h0 =>
  bytes1_in F n h6 hro hn l Bm Bn N many hN hm J Jx hY W ((hW.cell (p := ⟨Bm, 0, none⟩) hlm).trans hBm) ((hW.cell (p := ⟨Bn, 0, none⟩) hln).trans hBn) h0

theorem info_u8 : (Tryz.prog.info? 5).map (fun i => (i.zero, i.size, i.bytes)) = some (some (.int .u8 0), 1, 1) := by kernel_rfl

def u8s (l : List UInt8) : List Value := l.map fun x => .int .u8 x.toNat
theorem u8s_length (l : List UInt8) : (u8s l).length = l.length := by simp [u8s]
theorem u8s_append (l m : List UInt8) : u8s (l ++ m) = u8s l ++ u8s m := by simp [u8s]

set_option maxRecDepth 100000 in
set_option maxHeartbeats 2000000 in
theorem put_in (F : Fence) (n : Nat) (h3 : F.fn 29) (h4 : F.fn 53) (h5 : F.fn 89) (hro : F.round = none) (hn : 3 ≤ n) (N many : Nat) (hN : N < 18446744073709551616) (hm : many = 4 ∨ many = 8) (w : World) :
    CallsIn F n Tryz.prog 29 #[.int .u64 N, .int .i64 many] w fun e W' => ∃ v, e = .returned v ∧ W'.ownsRow w.heap.size 5 1 v (bts N many).length (u8s (bts N many)) ∧ Below w.heap.size w W' := by
  have h1 : 1 ≤ n := by omega
  obtain ⟨i0, hi, hz0, hz1, hz2⟩ := info_parts info_u8
  refine callsIn_of_wp_marks Tryz.func29 rfl h3 ?_ hro
  simp only [Tryz.ntmps29, List.size_toArray, List.length_cons, List.length_nil, Nat.reduceAdd, Nat.reduceSub, Array.replicate_succ, Array.replicate_zero, List.push_toArray, List.append_toArray, List.nil_append, List.cons_append]
  gi_wp2_with (gi_at_call 53; refine (bytes_in F (n - 1) h4 hro _ _ _).mono ?_; rintro e w' ⟨rfl, rfl⟩)
  have bO := Boxed.new w 24 (.slice none 0 0)
  have bN := Boxed.new (w.alloc (.cells #[.slice none 0 0] 24)) 25 (.int .u64 N)
  rw [World.size_alloc] at bN
  have bM := Boxed.new ((w.alloc (.cells #[.slice none 0 0] 24)).alloc (.cells #[.int .u64 N] 25)) 3 (.int .i64 many)
  rw [World.size_alloc, World.size_alloc] at bM
  have hB0 : Below w.heap.size w (((w.alloc (.cells #[.slice none 0 0] 24)).alloc (.cells #[.int .u64 N] 25)).alloc (.cells #[.int .i64 many] 3)) := (((Below.refl _ w).alloc (Nat.le_refl _) _).alloc (by simp only [World.size_alloc]; omega) _).alloc (by simp only [World.size_alloc]; omega) _
  have hlen := bts_length N many
  refine wpIn_rangeFunc_ownG hro h1 (gf := 89) (lb := #[.pointer (some ⟨w.heap.size + 1 + 1, 0, none⟩), .pointer (some ⟨w.heap.size + 1, 0, none⟩)]) rfl h5 (enters_of Tryz.func89 (by kernel_rfl) rfl)
    (bytes_stops F (n - 1) h5 hro (by omega) (w.heap.size + 1 + 1) (w.heap.size + 1) N many hN hm _ (by simp only [World.size_alloc]; omega) (by simp only [World.size_alloc]; omega) bM.cell (bN.alloc _).cell) Two.t (Two.b (by simp only [World.size_alloc]; omega) (by simp only [World.size_alloc]; omega)) (Below.refl _ _) (fun _ => rfl)
    (fun pre W => (∃ v, Boxed W w.heap.size 24 v ∧ W.ownsRow w.heap.size 5 1 v pre.length (u8s pre) ∧ (v = .slice none 0 0 ↔ pre = [])) ∧ Below w.heap.size w W ∧ Boxed W (w.heap.size + 1) 25 (.int .u64 N) ∧ Boxed W (w.heap.size + 1 + 1) 3 (.int .i64 many))
    (fun _ _ _ => False)
    (OwnFrom.and (Own.from (holdsRow_own w.heap.size w.heap.size 24 5 1 (fun pre => pre.length) (fun pre => u8s pre) (fun pre v => v = .slice none 0 0 ↔ pre = [])) _) (OwnFrom.and (ownFrom_below (Nat.le_refl _) (by simp only [World.size_alloc]; omega)) (OwnFrom.and (Own.from (boxed_own _ _ _) _) (Own.from (boxed_own _ _ _) _))))
    (fun _ _ _ _ _ hs _ _ => hs)
    ⟨⟨_, (bO.alloc _).alloc _, World.ownsRow_nil _ _ _ _, by simp⟩, hB0, bN.alloc _, bM⟩
    (fun x => { tmps := #[.int .u64 N, .int .i64 many, undef, undef, .pointer (some ⟨w.heap.size, 0, none⟩), .int .u8 x.toNat, .int .u64 N, .int .i64 many, .func (.func 89) #[] #[.pointer (some ⟨w.heap.size + 1 + 1, 0, none⟩), .pointer (some ⟨w.heap.size + 1, 0, none⟩)], .int .u8 x.toNat, undef, undef, undef, undef, undef], defers := [] }) ?assign ?body ?done ?stop
  case assign =>
    intro l x W K hK
    simp only [encB]
    gi_wp2
    exact hK
  case body =>
    rintro l pre x W ⟨⟨v, hv, hrow, hnil⟩, hB, xN, xM⟩ hlt
    have hc := hv.cell
    rw [hlen] at hlt
    have hm8 : many ≤ 8 := by omega
    clear hlen
    gi_wp2_with (gi_at_builtin; refine wpListIn_append_own _ rfl _ _ 24 rfl w.heap.size 5 i0 (.int .u8 0) 1 1 Tryz.underlying24 hi hz0 hz1 hz2 rfl (by decide) _ _ _ rfl (hrow.alloc _) ⟨W.heap.size, 0, none⟩ 1 1 [.int .u8 x.toNat] rfl rfl (cell_one_new _ _ _) (by simp [Value.oneCell']) (by unfold maxLen; omega) (by omega) (by have := hB.size; simp; omega) ?_; intro v' w1 hown' hgrow _; obtain ⟨g', cap', rfl⟩ := ownsRow_succ hown'; obtain ⟨hv1, hv2, hr2, hk2, hb2⟩ := hv.appended (by decide) hrow hB.size (Nat.le_refl _) hown' hgrow; have hN1 := ((xN.alloc (.cells #[.int .u8 x.toNat] 5)).kept hgrow (xN.not_row (by decide) hrow)).kept (grownBy_setCell' w1 w.heap.size (.slice (some ⟨g', 0, none⟩) (pre.length + 1) cap')) (by simp only [ne_eq, Option.some.injEq]; omega); have hM1 := ((xM.alloc (.cells #[.int .u8 x.toNat] 5)).kept hgrow (xM.not_row (by decide) hrow)).kept (grownBy_setCell' w1 w.heap.size (.slice (some ⟨g', 0, none⟩) (pre.length + 1) cap')) (by simp only [ne_eq, Option.some.injEq]; omega); have hc1 := hv1.cell; have hf1 := hv1.frozen)
    exact ⟨hk2.from _, ⟨hM1.trans xM.symm, hN1.trans xN.symm⟩, ⟨_, hv2, by rw [u8s_append]; simpa [u8s] using hr2, by simp⟩, hB.trans hb2, hN1, hM1⟩
  case done =>
    rintro D ys W hD rfl ⟨⟨v, hv, hrow, hnil⟩, hB, xN, xM⟩ hK
    have hex : ∃ A l c, v = .slice A l c := by
      rcases hrow.2 with ⟨rfl, _⟩ | ⟨g, cap, cur, rfl, _⟩
      · exact ⟨_, _, _, rfl⟩
      · exact ⟨_, _, _, rfl⟩
    obtain ⟨A, l, c, rfl⟩ := hex
    have hc := hv.cell
    have hf := hv.frozen
    gi_wp2
    have hK' := (KeepsOthers.setCell W ⟨w.heap.size, 0, none⟩ (.slice A l c)).same D _ hK rfl
    have hv' := hv.set (.slice A l c)
    have hB' := hB.setCell (p := ⟨w.heap.size, 0, none⟩) (Nat.le_refl _) (.slice A l c)
    have hrow' := hrow.kept (grownBy_setCell' W w.heap.size (.slice A l c)) (.inr (hv.not_row (by decide) hrow).symm)
    refine ⟨by simp, .inl ⟨_, _, rfl, run_takeDeferred hK', ?_⟩⟩
    have hv2 := hv'.kept (grownBy_putObj' _ D (.deferred none)) (by intro e; cases e; have h1 : Boxed _ _ _ _ := hv'; unfold Boxed at h1; rw [h1] at hK'; cases hK')
    have hc2 := hv2.cell
    refine ⟨.slice A l c, ?_, _, rfl, ownsRow_putObj hrow' _ hK' rfl, hB'.trans (belowK_b (w := w) (Nat.le_refl _) _ D _ _ (by simp only [World.size_alloc] at hD; omega) hK' rfl rfl)⟩
    simp [results, Tryz.results29, go_sem, hc2]
  case stop =>
    rintro D c pre W _ _ h _
    exact h.elim

theorem bts4 (n : Nat) : bts n 4 = put4 n := by
  simp [bts, put4, List.range_succ]
theorem bts8 (n : Nat) : bts n 8 = put8 n := by
  simp [bts, put8, put4, List.range_succ, Nat.div_div_eq_div_mul]

/-- words.put, in plain Calls. -/
theorem put_calls (N many : Nat) (hN : N < 18446744073709551616) (hm : many = 4 ∨ many = 8) (w : World) :
    Calls Tryz.prog 29 #[.int .u64 N, .int .i64 many] w fun e W' => ∃ v, e = .returned v ∧ W'.ownsRow w.heap.size 5 1 v (bts N many).length (u8s (bts N many)) ∧ Below w.heap.size w W' :=
  callsIn_wide.1 (put_in Fence.wide 3 trivial trivial trivial rfl (by omega) N many hN hm w)

end Go.Proofs.YtgmhapjidbdhnaaGreat
namespace Go.Proofs.YtgmhapjidbdhnaaGreat
open Go.RowKit

theorem bl_alloc {a w : World} (h : Below a.heap.size a w) (o : Obj) : Below a.heap.size a (w.alloc o) := h.alloc h.size o
theorem bl_set {a w : World} {p : Addr} (h : Below a.heap.size a w) (hp : a.heap.size ≤ p.block) (v : Value) : Below a.heap.size a (w.setCell p v) := h.setCell hp v
theorem bl_drew {a w : World} (h : Below a.heap.size a w) : Below a.heap.size a w.drew := h.drew
theorem bl_drewN {a w : World} {m : Nat} (h : Below a.heap.size a w) : Below a.heap.size a (w.drewN m) := ⟨h.os, h.tape, h.output, h.size, h.block⟩
theorem bl_then {a w w' : World} (h : Below a.heap.size a w) (k : Below w.heap.size w w') : Below a.heap.size a w' := h.trans (k.mono h.size)

theorem bl_then' {a w w' : World} (k : Below w.heap.size w w') (h : Below a.heap.size a w) : Below a.heap.size a w' := bl_then h k
theorem bcell {W w1 : World} (hb : Below W.heap.size W w1) : (∀ b o, b < W.heap.size → w1.cell? ⟨b, o, none⟩ = W.cell? ⟨b, o, none⟩) ∧ (∀ b o, b < W.heap.size → w1.frozen? ⟨b, o, none⟩ = W.frozen? ⟨b, o, none⟩) :=
  ⟨fun b o h => hb.cell (p := ⟨b, o, none⟩) h, fun b o h => hb.frozen (p := ⟨b, o, none⟩) h⟩

/-- A slice of bytes that can be read: at address A stand the n bytes xs. -/
def Bs (w : World) (A : Option Addr) (n : Nat) (xs : List UInt8) : Prop :=
  xs.length = n ∧ n ≤ 9223372036854775807 ∧ (0 < n → ∃ b off, A = some ⟨b, off, none⟩ ∧ b < w.heap.size ∧ ∀ j, j < n → w.cell? ⟨b, off + j, none⟩ = some (.int .u8 (xs.getD j 0).toNat))
theorem Bs.len {w : World} {A : Option Addr} {n : Nat} {xs : List UInt8} (h : Bs w A n xs) : xs.length = n := h.1
theorem Bs.le {w : World} {A : Option Addr} {n : Nat} {xs : List UInt8} (h : Bs w A n xs) : n ≤ 9223372036854775807 := h.2.1
theorem Bs.below {w w' : World} {A : Option Addr} {n : Nat} {xs : List UInt8} (h : Bs w A n xs) (hb : Below w.heap.size w w') : Bs w' A n xs :=
  ⟨h.1, h.2.1, fun hn => by
    obtain ⟨b, off, e, hl, hc⟩ := h.2.2 hn
    exact ⟨b, off, e, Nat.lt_of_lt_of_le hl hb.size, fun j hj => (hb.cell (p := ⟨b, off + j, none⟩) hl).trans (hc j hj)⟩⟩
theorem Bs.drew {w : World} {A : Option Addr} {n : Nat} {xs : List UInt8} (h : Bs w A n xs) : Bs w.drew A n xs := h.below ((Below.refl _ _).drew)
theorem Bs.alloc {w : World} {A : Option Addr} {n : Nat} {xs : List UInt8} (h : Bs w A n xs) (o : Obj) : Bs (w.alloc o) A n xs := h.below ((Below.refl _ _).alloc (Nat.le_refl _) o)
/-- What stands from k on. -/
theorem Bs.drop {w : World} {A A' : Option Addr} {n m : Nat} {xs : List UInt8} (h : Bs w A n xs) (k : Nat) (hk : k ≤ n) (hm : m = n - k) (hA : k < n → ∀ b off, A = some ⟨b, off, none⟩ → A' = some ⟨b, off + k, none⟩) : Bs w A' m (xs.drop k) := by
  subst hm
  refine ⟨by rw [List.length_drop, h.1], by have := h.2.1; omega, fun hn => ?_⟩
  obtain ⟨b, off, e, hl, hc⟩ := h.2.2 (by omega)
  refine ⟨b, off + k, hA (by omega) b off e, hl, fun j hj => ?_⟩
  rw [Nat.add_assoc, hc (k + j) (by omega)]
  simp [List.getD, List.getElem?_drop]
/-- The first k of them. -/
theorem Bs.take {w : World} {A : Option Addr} {n : Nat} {xs : List UInt8} (h : Bs w A n xs) (k : Nat) (hk : k ≤ n) : Bs w A k (xs.take k) := by
  refine ⟨by rw [List.length_take, h.1]; omega, by have := h.2.1; omega, fun hn => ?_⟩
  obtain ⟨b, off, e, hl, hc⟩ := h.2.2 (by omega)
  refine ⟨b, off, e, hl, fun j hj => ?_⟩
  rw [hc j (by omega)]
  have : j < xs.length := by rw [h.1]; omega
  simp [List.getD, List.getElem?_take, hj]
theorem Bs.nil (w : World) (A : Option Addr) : Bs w A 0 [] := ⟨rfl, by omega, fun h => absurd h (by omega)⟩

/-- A slice of bytes of the call's own, in a block from base on. -/
def OwnB (w : World) (base : Nat) (v : Value) (bs : List UInt8) : Prop := w.ownsRow base 5 1 v bs.length (u8s bs)
theorem OwnB.reads {w : World} {base : Nat} {v : Value} {bs : List UInt8} (h : OwnB w base v bs) : ∃ A c, v = .slice A bs.length c ∧ bs.length ≤ c ∧ c ≤ 9223372036854775807 ∧ Bs w A bs.length bs := by
  have h' := h
  unfold OwnB at h
  rcases h.2 with ⟨rfl, h0⟩ | ⟨g, cap, cur, rfl, hb, hh, hn, hc, hs, ht⟩
  · have : bs = [] := List.eq_nil_of_length_eq_zero h0
    subst this
    exact ⟨none, 0, rfl, Nat.le_refl _, by omega, Bs.nil _ _⟩
  · simp only [maxLen] at hc
    refine ⟨_, cap, rfl, hn, by omega, rfl, by omega, fun hp => ⟨g, 0, rfl, (Array.getElem?_eq_some_iff.1 hh).1, fun j hj => ?_⟩⟩
    have e := h.cellAt j (by simpa [u8s] using hj)
    rw [Nat.zero_add, e]
    simp [u8s, List.getD, List.getElem?_eq_getElem hj]
theorem OwnB.below {w w' : World} {base : Nat} {v : Value} {bs : List UInt8} (h : OwnB w base v bs) (hb : Below w.heap.size w w') : OwnB w' base v bs :=
  World.ownsRow.kept h (row := none) ⟨hb.os, hb.tape, hb.output, hb.size, fun i hi _ => hb.block i hi⟩ (by cases v.ownBlock <;> simp)
theorem OwnB.mono {w : World} {base base' : Nat} {v : Value} {bs : List UInt8} (h : OwnB w base v bs) (hb : base' ≤ base) : OwnB w base' v bs := by
  refine ⟨h.1, ?_⟩
  rcases h.2 with h0 | ⟨g, cap, cur, e, hg, r⟩
  · exact .inl h0
  · exact .inr ⟨g, cap, cur, e, by omega, r⟩

theorem wraps_u32' (n : Int) (h₀ : 0 ≤ n) (h₁ : n < 2 ^ 32) : IntKind.u32.wrap n = n := IntWalk.u32_in n (by omega)
theorem or_u32 (x : Nat) (c : Nat) (hc : c < 256) (hx : x * 256 < 4294967296) : bits .or .u32 ((x : Int) * 256) c = ((256 * x + c : Nat) : Int) := by
  rw [bits_join .u32 32 (by decide) wraps_u32' 8 _ _ (by omega) (by omega) (by omega) (by omega) (by omega) (by omega)]
  omega
theorem wraps_u64' (n : Int) (h₀ : 0 ≤ n) (h₁ : n < 2 ^ 64) : IntKind.u64.wrap n = n := IntWalk.u64_in n (by omega)
theorem or_u64 (x : Nat) (c : Nat) (hc : c < 256) (hx : x * 256 < 18446744073709551616) : bits .or .u64 ((x : Int) * 256) c = ((256 * x + c : Nat) : Int) := by
  rw [bits_join .u64 64 (by decide) wraps_u64' 8 _ _ (by omega) (by omega) (by omega) (by omega) (by omega) (by omega)]
  omega

section
variable (A : Option Addr) (n cap : Nat) (xs : List UInt8) (w : World)
set_option maxHeartbeats 400000 in
theorem get32_short (h : Bs w A n xs) (hs : n < 4) :
    Calls Tryz.prog 108 #[.slice A n cap, .int .i64 4] w fun e w' => e = .returned (.tuple #[.int .u32 0, .int .i64 4]) ∧ w = w' := by
  clear h
  go_enter Tryz.func108, Tryz.ntmps108
  go_wp2
  go_ret2
  exact ⟨rfl, rfl⟩
set_option maxHeartbeats 400000 in
theorem get32_full (h : Bs w A n xs) (hcap : n ≤ cap) (hs : 4 ≤ n) :
    Calls Tryz.prog 108 #[.slice A n cap, .int .i64 4] w fun e w' => e = .returned (.tuple #[.int .u32 (beN (xs.take 4)), .int .i64 0]) ∧ w = w' := by
  obtain ⟨hx, hn, h⟩ := h
  obtain ⟨b, off, rfl, hl, h⟩ := h (by omega)
  have H := Lib.hid h; clear h
  have HX := Lib.hid hx; clear hx
  go_enter Tryz.func108, Tryz.ntmps108
  go_wp2
  go_loop [4, 16] (fun m i => ∃ k : Nat, k ≤ 4 ∧ i = .int .i64 k ∧ m = .int .u32 (beN (xs.take k))) (fun _ i => 4 - (intOf i).toNat)
  case atStart => exact ⟨0, by omega, rfl, rfl⟩
  case round =>
    obtain ⟨k, hk, rfl, rfl⟩ := hrel
    by_cases hlt : k < 4
    · have hc := H.out k (by omega)
      have hb := (xs.getD k 0).toNat_lt
      have hs := Lib.hid (beN_take_succ xs k (by rw [HX.out]; omega))
      have hbe : beN (xs.take k) * 256 < 4294967296 := by
        have h1 := beN_lt (xs.take k)
        have h2 : 256 ^ (xs.take k).length ≤ 256 ^ 3 := Nat.pow_le_pow_right (by decide) (by rw [List.length_take]; omega)
        omega
      generalize (xs.getD k 0).toNat = c at hc hb hs
      go_wp2
      go_round
      case rel => exact ⟨k + 1, by omega, by go_num, by rw [hs.out, or_u32 _ _ hb hbe]⟩
      case measure => simp [intOf]; omega
    · obtain rfl : k = 4 := by omega
      go_wp2
      go_ret2
      exact ⟨rfl, rfl⟩
set_option maxHeartbeats 400000 in
theorem get64_short (h : Bs w A n xs) (hs : n < 8) :
    Calls Tryz.prog 104 #[.slice A n cap, .int .i64 8] w fun e w' => e = .returned (.tuple #[.int .u64 0, .int .i64 4]) ∧ w = w' := by
  clear h
  go_enter Tryz.func104, Tryz.ntmps104
  go_wp2
  go_ret2
  exact ⟨rfl, rfl⟩
set_option maxHeartbeats 400000 in
theorem get64_full (h : Bs w A n xs) (hcap : n ≤ cap) (hs : 8 ≤ n) :
    Calls Tryz.prog 104 #[.slice A n cap, .int .i64 8] w fun e w' => e = .returned (.tuple #[.int .u64 (beN (xs.take 8)), .int .i64 0]) ∧ w = w' := by
  obtain ⟨hx, hn, h⟩ := h
  obtain ⟨b, off, rfl, hl, h⟩ := h (by omega)
  have H := Lib.hid h; clear h
  have HX := Lib.hid hx; clear hx
  go_enter Tryz.func104, Tryz.ntmps104
  go_wp2
  go_loop [4, 16] (fun m i => ∃ k : Nat, k ≤ 8 ∧ i = .int .i64 k ∧ m = .int .u64 (beN (xs.take k))) (fun _ i => 8 - (intOf i).toNat)
  case atStart => exact ⟨0, by omega, rfl, rfl⟩
  case round =>
    obtain ⟨k, hk, rfl, rfl⟩ := hrel
    by_cases hlt : k < 8
    · have hc := H.out k (by omega)
      have hb := (xs.getD k 0).toNat_lt
      have hs := Lib.hid (beN_take_succ xs k (by rw [HX.out]; omega))
      have hbe : beN (xs.take k) * 256 < 18446744073709551616 := by
        have h1 := beN_lt (xs.take k)
        have h2 : 256 ^ (xs.take k).length ≤ 256 ^ 7 := Nat.pow_le_pow_right (by decide) (by rw [List.length_take]; omega)
        omega
      generalize (xs.getD k 0).toNat = c at hc hb hs
      go_wp2
      go_round
      case rel => exact ⟨k + 1, by omega, by go_num, by rw [hs.out, or_u64 _ _ hb hbe]⟩
      case measure => simp [intOf]; omega
    · obtain rfl : k = 8 := by omega
      go_wp2
      go_ret2
      exact ⟨rfl, rfl⟩

theorem Get_short (h : Bs w A n xs) (hs : n < 4) :
    Calls Tryz.prog 73 #[.slice A n cap] w fun e w' => e = .returned (.tuple #[.int .u32 0, .int .i64 4]) ∧ w = w' := by
  have H := Lib.hid h; clear h
  go_enter Tryz.func73, Tryz.ntmps73
  go_wp2_with (go_at_call 108; refine (get32_short _ _ _ _ _ H.out hs).mono ?_; rintro e w' ⟨rfl, rfl⟩)
  go_ret2
  exact ⟨rfl, rfl⟩
theorem Get_full (h : Bs w A n xs) (hcap : n ≤ cap) (hs : 4 ≤ n) :
    Calls Tryz.prog 73 #[.slice A n cap] w fun e w' => e = .returned (.tuple #[.int .u32 (beN (xs.take 4)), .int .i64 0]) ∧ w = w' := by
  have H := Lib.hid h; clear h
  go_enter Tryz.func73, Tryz.ntmps73
  go_wp2_with (go_at_call 108; refine (get32_full _ _ _ _ _ H.out hcap hs).mono ?_; rintro e w' ⟨rfl, rfl⟩)
  go_ret2
  exact ⟨rfl, rfl⟩
theorem GetLong_short (h : Bs w A n xs) (hs : n < 8) :
    Calls Tryz.prog 71 #[.slice A n cap] w fun e w' => e = .returned (.tuple #[.int .u64 0, .int .i64 4]) ∧ w = w' := by
  have H := Lib.hid h; clear h
  go_enter Tryz.func71, Tryz.ntmps71
  go_wp2_with (go_at_call 104; refine (get64_short _ _ _ _ _ H.out hs).mono ?_; rintro e w' ⟨rfl, rfl⟩)
  go_ret2
  exact ⟨rfl, rfl⟩
theorem GetLong_full (h : Bs w A n xs) (hcap : n ≤ cap) (hs : 8 ≤ n) :
    Calls Tryz.prog 71 #[.slice A n cap] w fun e w' => e = .returned (.tuple #[.int .u64 (beN (xs.take 8)), .int .i64 0]) ∧ w = w' := by
  have H := Lib.hid h; clear h
  go_enter Tryz.func71, Tryz.ntmps71
  go_wp2_with (go_at_call 104; refine (get64_full _ _ _ _ _ H.out hcap hs).mono ?_; rintro e w' ⟨rfl, rfl⟩)
  go_ret2
  exact ⟨rfl, rfl⟩
/-- Whether the next number is yes: a value and an error. -/
def yesOf (xs : List UInt8) : Bool × Int := match pYes xs with | .ok (y, _) => (y, 0) | .error e => (false, e)
theorem GetYes_any (h : Bs w A n xs) (hcap : n ≤ cap) :
    Calls Tryz.prog 111 #[.slice A n cap] w fun e w' => e = .returned (.tuple #[.bool (yesOf xs).1, .int .i64 (yesOf xs).2]) ∧ w = w' := by
  have H := Lib.hid h
  have hn := h.2.1
  by_cases hs : n < 4
  · have hy : Hid (yesOf xs = (false, 4)) := by simp [Hid, yesOf, pYes, h.1, hs]
    clear h
    go_enter Tryz.func111, Tryz.ntmps111
    go_wp2_with (go_at_call 73; refine (Get_short _ _ _ _ _ H.out hs).mono ?_; rintro e w' ⟨rfl, rfl⟩)
    go_ret2
    rw [hy.out]
    exact ⟨rfl, rfl⟩
  · have hs4 : 4 ≤ n := by omega
    have hy : Hid (yesOf xs = if beN (xs.take 4) > 1 then (false, 5) else (beN (xs.take 4) == 1, 0)) := by
      simp only [Hid, yesOf, pYes, h.1, hs, if_false]
      by_cases h1 : beN (xs.take 4) > 1
      · simp only [if_pos h1]
      · simp only [if_neg h1]
    clear h hs
    generalize hm : beN (xs.take 4) = m at hy
    have HM := Lib.hid hm; clear hm
    rcases Nat.lt_or_ge 1 m with h1 | h1
    · go_enter Tryz.func111, Tryz.ntmps111
      go_wp2_with (go_at_call 73; refine (Get_full _ _ _ _ _ H.out hcap hs4).mono ?_; rw [HM.out]; rintro e w' ⟨rfl, rfl⟩)
      go_ret2
      rw [hy.out, if_pos h1]
      exact ⟨rfl, rfl⟩
    · obtain rfl | rfl : m = 0 ∨ m = 1 := by omega
      all_goals
        go_enter Tryz.func111, Tryz.ntmps111
        go_wp2_with (go_at_call 73; refine (Get_full _ _ _ _ _ H.out hcap hs4).mono ?_; rw [HM.out]; rintro e w' ⟨rfl, rfl⟩)
        go_ret2
        rw [hy.out, if_neg (by omega)]
        exact ⟨rfl, rfl⟩
end

theorem Put_any (n : Nat) (hn : n < 4294967296) (w : World) :
    Calls Tryz.prog 20 #[.int .u32 n] w fun e w' => ∃ v, e = .returned v ∧ OwnB w' w.heap.size v (put4 n) ∧ Below w.heap.size w w' := by
  have h64 : n < 18446744073709551616 := by omega
  go_enter Tryz.func20, Tryz.ntmps20
  go_wp2_with (go_at_call 29; refine (put_calls n 4 h64 (.inl rfl) w).mono ?_; rintro e w' ⟨v, rfl, h⟩)
  go_ret
  refine ⟨v, rfl, ?_⟩
  rw [bts4] at h
  exact h
theorem PutLong_any (n : Nat) (hn : n < 18446744073709551616) (w : World) :
    Calls Tryz.prog 19 #[.int .u64 n] w fun e w' => ∃ v, e = .returned v ∧ OwnB w' w.heap.size v (put8 n) ∧ Below w.heap.size w w' := by
  go_enter Tryz.func19, Tryz.ntmps19
  go_wp2_with (go_at_call 29; refine (put_calls n 8 hn (.inr rfl) w).mono ?_; rintro e w' ⟨v, rfl, h⟩)
  go_ret
  refine ⟨v, rfl, ?_⟩
  rw [bts8] at h
  exact h
theorem PutYes_any (y : Bool) (w : World) :
    Calls Tryz.prog 55 #[.bool y] w fun e w' => ∃ v, e = .returned v ∧ OwnB w' w.heap.size v (putYes y) ∧ Below w.heap.size w w' := by
  cases y
  · go_enter Tryz.func55, Tryz.ntmps55
    go_wp2_with (go_at_call 20; refine (Put_any 0 (by omega) w).mono ?_; rintro e w' ⟨v, rfl, h⟩)
    go_ret
    exact ⟨v, rfl, h⟩
  · go_enter Tryz.func55, Tryz.ntmps55
    go_wp2_with (go_at_call 20; refine (Put_any 1 (by omega) w).mono ?_; rintro e w' ⟨v, rfl, h⟩)
    go_ret
    exact ⟨v, rfl, h⟩
end Go.Proofs.YtgmhapjidbdhnaaGreat
namespace Go.Proofs.YtgmhapjidbdhnaaGreat
open Go.ChangeShapes Go.WideShapes Go.ChangeAt Go.RowKit

theorem own : ownKnob Tryz.prog.godebug = none := by kernel_rfl
theorem laidOut : laidOutB Tryz.prog = true := by kernel_rfl
/-- The bytes that numbers are. -/
def bytesOf (zs : List Int) : List UInt8 := zs.map fun z => UInt8.ofNat z.toNat
theorem Bs.of_row {w : World} {x : Addr} {l c : Nat} {zs : List Int} (hl : l ≤ c) (hm : c ≤ maxLen) (hz : zs.length = c) (hcell : ∀ i, i < zs.length → w.cell? (x.add i) = some (.int .u8 (zs.getD i 0))) (hwz : ∀ n ∈ zs, (Lit.int .u8 n).wf = true) :
    Bs w (some x) l (bytesOf (zs.take l)) := by
  refine ⟨by simp [bytesOf]; omega, by simp only [maxLen] at hm; omega, fun hp => ?_⟩
  have h0 := hcell 0 (by omega)
  obtain ⟨b, off, spot⟩ := x
  have hspot : spot = none := by simpa [Addr.add] using World.cell?_spot h0
  subst hspot
  refine ⟨b, off, rfl, ?_, fun j hj => ?_⟩
  · by_cases hb : b < w.heap.size
    · exact hb
    · rw [Addr.add_lit] at h0
      simp [World.cell?, Array.getElem?_eq_none (Nat.le_of_not_lt hb)] at h0
  · have h := hcell j (by omega)
    rw [Addr.add_lit] at h
    rw [h]
    have hj' : j < zs.length := by omega
    have hw := hwz zs[j] (List.getElem_mem hj')
    simp [Lit.wf, IntKind.min, IntKind.max, IntKind.signed, IntKind.bits] at hw
    have e : (bytesOf (zs.take l)).getD j 0 = UInt8.ofNat zs[j].toNat := by
      simp [bytesOf, List.getD, List.getElem?_take, hj, List.getElem?_eq_getElem hj']
    rw [e]
    simp [List.getD, List.getElem?_eq_getElem hj']
    omega
end Go.Proofs.YtgmhapjidbdhnaaGreat
namespace Go.Proofs.YtgmhapjidbdhnaaGreat
open Go.RowKit

theorem Check_any (s n : Int) (w : World) : Calls Tryz.prog 86 #[.agg #[.int .u32 s, .int .u32 n]] w fun e w' => e = .returned (.bool (decide (n < 1000000000))) ∧ w.alloc (.cells #[.int .u32 s, .int .u32 n] 28) = w' := by
  go_enter Tryz.func86, Tryz.ntmps86
  go_wp2
  go_ret
  exact ⟨rfl, rfl⟩
theorem Check_yes (s n : Int) (hn : n < 1000000000) (w : World) : Calls Tryz.prog 86 #[.agg #[.int .u32 s, .int .u32 n]] w fun e w' => e = .returned (.bool true) ∧ w.alloc (.cells #[.int .u32 s, .int .u32 n] 28) = w' :=
  (Check_any s n w).mono fun e w' h => ⟨by rw [h.1, decide_eq_true (by omega)], h.2⟩
theorem Check_no (s n : Int) (hn : ¬ n < 1000000000) (w : World) : Calls Tryz.prog 86 #[.agg #[.int .u32 s, .int .u32 n]] w fun e w' => e = .returned (.bool false) ∧ w.alloc (.cells #[.int .u32 s, .int .u32 n] 28) = w' :=
  (Check_any s n w).mono fun e w' h => ⟨by rw [h.1, decide_eq_false (by omega)], h.2⟩

def eTime (t : Tm) : Value := .agg #[.int .u32 t.sec, .int .u32 t.nano]
section
variable (A : Option Addr) (n cap : Nat) (xs : List UInt8) (w : World)
set_option maxHeartbeats 400000 in
theorem TGet_short (h : Bs w A n xs) (hs : n < 8) :
    Calls Tryz.prog 83 #[.slice A n cap] w fun e w' => e = .returned (.tuple #[.agg #[.int .u32 0, .int .u32 0], .int .i64 4]) ∧ Below w.heap.size w w' := by
  have H := Lib.hid h; clear h
  go_enter Tryz.func83, Tryz.ntmps83
  go_wp2_with (go_at_call 71; refine (GetLong_short _ _ _ _ _ (H.out.alloc _) hs).mono ?_; rintro e w' ⟨rfl, rfl⟩)
  exact bodyPost_ret (v := .tuple #[.agg #[.int .u32 0, .int .u32 0], .int .i64 4]) (by simp [results, Tryz.results83, go_sem]) rfl ⟨rfl, by (with_reducible (repeat' (first | exact Below.refl _ _ | assumption | apply bl_alloc | apply bl_drewN | apply bl_drew | refine bl_set ?_ ?_ _))) <;> (first | done | (simp; done) | (simp; omega) | omega)⟩
set_option maxHeartbeats 400000 in
theorem TGet_bad (h : Bs w A n xs) (hcap : n ≤ cap) (hs : 8 ≤ n) (hb : ¬ beN (xs.take 8) % 4294967296 < 1000000000) :
    Calls Tryz.prog 83 #[.slice A n cap] w fun e w' => e = .returned (.tuple #[.agg #[.int .u32 0, .int .u32 0], .int .i64 5]) ∧ Below w.heap.size w w' := by
  have H := Lib.hid h; clear h
  have hl := beN_lt (xs.take 8)
  have hl : beN (xs.take 8) < 18446744073709551616 := Nat.lt_of_lt_of_le hl (Nat.le_trans (Nat.pow_le_pow_right (by decide) (List.length_take_le _ _)) (by decide))
  generalize hm : beN (xs.take 8) = m at hb hl
  have HM := Lib.hid hm; clear hm
  go_enter Tryz.func83, Tryz.ntmps83
  go_wp2_with (first | (go_at_call 71; refine (GetLong_full _ _ _ _ _ (H.out.alloc _) hcap hs).mono ?_; rw [HM.out]; rintro e w' ⟨rfl, rfl⟩) | (go_at_call 86; refine (Check_no _ _ (by omega) _).mono ?_; rintro e w1 ⟨rfl, rfl⟩))
  exact bodyPost_ret (v := .tuple #[.agg #[.int .u32 0, .int .u32 0], .int .i64 5]) (by simp [results, Tryz.results83, go_sem]) rfl ⟨rfl, by (with_reducible (repeat' (first | exact Below.refl _ _ | assumption | apply bl_alloc | apply bl_drewN | apply bl_drew | refine bl_set ?_ ?_ _))) <;> (first | done | (simp; done) | (simp; omega) | omega)⟩
set_option maxHeartbeats 400000 in
theorem TGet_full (h : Bs w A n xs) (hcap : n ≤ cap) (hs : 8 ≤ n) (hb : beN (xs.take 8) % 4294967296 < 1000000000) :
    Calls Tryz.prog 83 #[.slice A n cap] w fun e w' => e = .returned (.tuple #[eTime ⟨beN (xs.take 8) / 4294967296, beN (xs.take 8) % 4294967296⟩, .int .i64 0]) ∧ Below w.heap.size w w' := by
  have H := Lib.hid h; clear h
  have hl := beN_lt (xs.take 8)
  have hl : beN (xs.take 8) < 18446744073709551616 := Nat.lt_of_lt_of_le hl (Nat.le_trans (Nat.pow_le_pow_right (by decide) (List.length_take_le _ _)) (by decide))
  generalize hm : beN (xs.take 8) = m at hb hl
  have HM := Lib.hid hm; clear hm
  go_enter Tryz.func83, Tryz.ntmps83
  go_wp2_with (first | (go_at_call 71; refine (GetLong_full _ _ _ _ _ (H.out.alloc _) hcap hs).mono ?_; rw [HM.out]; rintro e w' ⟨rfl, rfl⟩) | (go_at_call 86; refine (Check_yes _ _ (by omega) _).mono ?_; rintro e w1 ⟨rfl, rfl⟩))
  exact bodyPost_ret (v := .tuple #[.agg #[.int .u32 (m / 4294967296 : Nat), .int .u32 (m % 4294967296 : Nat)], .int .i64 0]) (by simp [results, Tryz.results83, go_sem]) rfl ⟨rfl, by (with_reducible (repeat' (first | exact Below.refl _ _ | assumption | apply bl_alloc | apply bl_drewN | apply bl_drew | refine bl_set ?_ ?_ _))) <;> (first | done | (simp; done) | (simp; omega) | omega)⟩
theorem TGet_any (A : Option Addr) (n cap : Nat) (xs : List UInt8) (hx : xs.length = n) (hcap : n ≤ cap) : ∃ (t : Tm) (er : Int), (∀ w, Bs w A n xs →
    Calls Tryz.prog 83 #[.slice A n cap] w fun e w' => e = .returned (.tuple #[.agg #[.int .u32 t.sec, .int .u32 t.nano], .int .i64 er]) ∧ Below w.heap.size w w') ∧
    ((er = 0 ∧ pTime xs = .ok (t, 8) ∧ 8 ≤ n) ∨ ((er == 0) = false ∧ pTime xs = .error er)) := by
  by_cases hs : n < 8
  · exact ⟨⟨0, 0⟩, 4, fun w h => TGet_short A n cap xs w h hs, .inr ⟨rfl, by simp [pTime, hx, hs]⟩⟩
  · by_cases hb : beN (xs.take 8) % 4294967296 < 1000000000
    · exact ⟨_, 0, fun w h => TGet_full A n cap xs w h hcap (by omega) hb, .inl ⟨rfl, by simp [pTime, hx, hs, hb], by omega⟩⟩
    · exact ⟨⟨0, 0⟩, 5, fun w h => TGet_bad A n cap xs w h hcap (by omega) hb, .inr ⟨rfl, by simp [pTime, hx, hs, hb]⟩⟩
end
end Go.Proofs.YtgmhapjidbdhnaaGreat
namespace Go.Proofs.YtgmhapjidbdhnaaGreat
open Go.RowKit
theorem OwnB.nil (w : World) (base : Nat) : OwnB w base (.slice none 0 0) [] := ⟨rfl, .inl ⟨rfl, rfl⟩⟩
theorem OwnB.drew {w : World} {base : Nat} {v : Value} {bs : List UInt8} (h : OwnB w base v bs) : OwnB w.drew base v bs := h.below (Below.refl _ _).drew
theorem OwnB.alloc {w : World} {base : Nat} {v : Value} {bs : List UInt8} (h : OwnB w base v bs) (o : Obj) : OwnB (w.alloc o) base v bs := h.below ((Below.refl _ _).alloc (Nat.le_refl _) o)
theorem OwnB.slice {w : World} {base : Nat} {v : Value} {bs : List UInt8} (h : OwnB w base v bs) (hp : 0 < bs.length) :
    ∃ g cap, v = .slice (some ⟨g, 0, none⟩) bs.length cap ∧ base ≤ g ∧ g < w.heap.size ∧ bs.length ≤ cap ∧ cap ≤ 9223372036854775807 ∧ ∀ j u, (u8s bs)[j]? = some u → w.cell? ((⟨g, 0, none⟩ : Addr).add j) = some u := by
  have h' := h
  unfold OwnB at h
  rcases h.2 with ⟨rfl, h0⟩ | ⟨g, cap, cur, rfl, hb, hh, hn, hc, hs, ht⟩
  · omega
  · simp only [maxLen] at hc
    refine ⟨g, cap, rfl, hb, (Array.getElem?_eq_some_iff.1 hh).1, hn, by omega, fun j u hu => ?_⟩
    have hj : j < (u8s bs).length := (List.getElem?_eq_some_iff.1 hu).1
    have e := World.ownsRow.cellAt h j (by simpa [u8s] using hj)
    rw [Addr.add_lit, Nat.zero_add, e]; simp [hu]
theorem oper_append_bytes {w : World} {o : Oper} {a : Act} {K : Act → World → Prop} {Q : Exit → Act → World → Prop} {base base2 : Nat} {v v2 : Value} {xs ys : List UInt8} (s x : Operand)
    (ho : o.op = .call { callee := .builtin .append, args := #[s, x], argTypes := #[24, 24] })
    (hs : a.eval s = v) (hx : a.eval x = v2) (h1 : OwnB w base v xs) (h2 : OwnB w base2 v2 ys) (hne : 0 < ys.length) (hlen : xs.length + ys.length ≤ 1099511627776) (hbase : base ≤ w.heap.size)
    (h : ∀ v' w', OwnB w' base v' (xs ++ ys) → Below base w w' → K (a.put o.dst v') w') : Oper.wp Tryz.prog o a w K Q := by
  obtain ⟨g, cap, rfl, hg, hgs, hc1, hc2, hcell⟩ := h2.slice hne
  have hi := info_u8
  obtain ⟨i0, hi, hz⟩ : ∃ i0, Tryz.prog.info? 5 = some i0 ∧ (i0.zero, i0.size, i0.bytes) = (some (.int .u8 0), 1, 1) := by
    cases he : Tryz.prog.info? 5 with
    | none => rw [he] at hi; cases hi
    | some i0 => rw [he] at hi; exact ⟨i0, rfl, by simpa using hi⟩
  simp only [Prod.mk.injEq] at hz
  have h1' := h1
  unfold OwnB at h1'
  refine wp_append_own w s x 24 ho base 5 i0 (.int .u8 0) 1 1 Tryz.underlying24 hi hz.1 hz.2.1 hz.2.2 rfl (by decide) v _ _ hs h1' _ _ _ (u8s ys) hx (by simp [u8s]) hcell (by intro u hu; obtain ⟨y, _, rfl⟩ := List.mem_map.1 hu; rfl) (by unfold maxLen; omega) (by omega) hbase ?_
  intro v' w' ho' hg' _
  refine h v' w' ?_ ⟨hg'.os, hg'.tape, hg'.output, hg'.size, fun i hi => hg'.block i (by omega) ?_⟩
  · rw [← u8s_append, ← List.length_append] at ho'; exact ho'
  · rcases h1.2 with ⟨rfl, _⟩ | ⟨g1, c1, cur1, rfl, hb1, _⟩
    · simp [Value.ownBlock]
    · simp [Value.ownBlock]; omega
theorem wp_append_bytes {w : World} {ops : Array Oper} {rest : List Oper} {o : Oper} {a : Act} {Q : Exit → Act → World → Prop} {base base2 : Nat} {v v2 : Value} {xs ys : List UInt8} (hgd : o.guard = none) (s x : Operand)
    (ho : o.op = .call { callee := .builtin .append, args := #[s, x], argTypes := #[24, 24] })
    (hs : a.eval s = v) (hx : a.eval x = v2) (h1 : OwnB w base v xs) (h2 : OwnB w base2 v2 ys) (hne : 0 < ys.length) (hlen : xs.length + ys.length ≤ 1099511627776) (hbase : base ≤ w.heap.size)
    (h : ∀ v' w', OwnB w' base v' (xs ++ ys) → Below base w w' → wpList Tryz.prog ops Q rest (a.put o.dst v') w') : wpList Tryz.prog ops Q (o :: rest) a w :=
  wpList_plain hgd fun _ hK => oper_append_bytes s x ho hs hx h1 h2 hne hlen hbase fun v' w' a b => hK _ _ (h v' w' a b)
theorem step_append_bytes {w : World} {ops : Array Oper} {o : Oper} {a : Act} {K : Act → World → Prop} {Q : Exit → Act → World → Prop} {E : Prop} {base base2 : Nat} {v v2 : Value} {xs ys : List UInt8} (hgd : o.guard = none) (s x : Operand)
    (ho : o.op = .call { callee := .builtin .append, args := #[s, x], argTypes := #[24, 24] })
    (hs : a.eval s = v) (hx : a.eval x = v2) (h1 : OwnB w base v xs) (h2 : OwnB w base2 v2 ys) (hne : 0 < ys.length) (hlen : xs.length + ys.length ≤ 1099511627776) (hbase : base ≤ w.heap.size)
    (h : ∀ v' w', OwnB w' base v' (xs ++ ys) → Below base w w' → K (a.put o.dst v') w') : if Region.wanted o (yielded ops a.tmps) = true then Oper.wp Tryz.prog o a w K Q else E := by
  rw [if_pos (by simp [Region.wanted, hgd])]
  exact oper_append_bytes s x ho hs hx h1 h2 hne hlen hbase h
end Go.Proofs.YtgmhapjidbdhnaaGreat
namespace Go.Proofs.YtgmhapjidbdhnaaGreat
open Go.RowKit

/-- The panic by which reading, or putting, ends. -/
def wr (e : Int) : List PanicEntry := [{ v := .iface 114 (.agg #[.int .i64 e]), recovered := false }]

theorem must_yes (e : Int) (w : World) : Calls Tryz.prog 31 #[.bool true, .int .i64 e] w fun r w' => r = .returned (.tuple #[]) ∧ w = w' := by
  go_enter Tryz.func31, Tryz.ntmps31
  go_wp2
  go_end0
  exact ⟨rfl, rfl⟩
theorem must_no (e : Int) (w : World) : Calls Tryz.prog 31 #[.bool false, .int .i64 e] w fun r w' => r = .panicked (wr e) ∧ w = w' := by
  go_enter Tryz.func31, Tryz.ntmps31
  go_wp2
  exact ⟨rfl, rfl, rfl⟩

/-- What stands from k on, as the walk spells it. -/
theorem Bs.from_lt {w : World} {A : Option Addr} {n : Nat} {xs : List UInt8} (h : Bs w A n xs) (k : Nat) {cap : Nat} (hk : k ≤ n) (hc : k < cap) : Bs w (Option.map (fun x => x.add k) A) (n - k) (xs.drop k) :=
  h.drop k hk rfl (by rintro h b off rfl; rw [Option.map_some, Addr.add_lit])
theorem Bs.from_end {w : World} {A : Option Addr} {n : Nat} {xs : List UInt8} (h : Bs w A n xs) {k : Nat} (hk : k ≤ n) (hc : n ≤ k) : Bs w A (n - k) (xs.drop k) :=
  h.drop k hk rfl (by intro h; omega)

/-! ### all blocks but one -/
section
variable {a w w' : World} {r : Option Nat} {R : Nat}
theorem gb_alloc (h : a.grownBy w r) (o : Obj) : a.grownBy (w.alloc o) r := h.trans (World.grownBy_alloc w o r)
theorem gb_drew (h : a.grownBy w r) : a.grownBy w.drew r := ⟨h.os, h.tape, h.output, h.size, h.block⟩
theorem gb_drewN {m : Nat} (h : a.grownBy w r) : a.grownBy (w.drewN m) r := ⟨h.os, h.tape, h.output, h.size, h.block⟩
theorem gb_setR {j : Nat} {s : Option Nat} (h : a.grownBy w (some R)) (v : Value) : a.grownBy (w.setCell ⟨R, j, s⟩ v) (some R) :=
  h.trans ⟨rfl, rfl, rfl, by simp [World.setCell], fun i _ hne => Below.heap_setCell _ _ _ _ (by simpa using hne)⟩
theorem gb_set {p : Addr} (h : a.grownBy w r) (hp : a.heap.size ≤ p.block) (v : Value) : a.grownBy (w.setCell p v) r :=
  ⟨h.os, h.tape, h.output, by have := h.size; simpa [World.setCell] using this, fun i hi hne => (Below.heap_setCell _ _ _ _ (by omega)).trans (h.block i hi hne)⟩
theorem gb_then (h : a.grownBy w r) (k : Below w.heap.size w w') : a.grownBy w' r :=
  ⟨k.os.trans h.os, k.tape.trans h.tape, k.output.trans h.output, Nat.le_trans h.size k.size, fun i hi hne => (k.block i (Nat.lt_of_lt_of_le hi h.size)).trans (h.block i hi hne)⟩
theorem gb_alloc_then {o : Obj} (h : (a.alloc o).grownBy w r) : a.grownBy w r := (World.grownBy_alloc a o r).trans h
theorem gcell (h : a.grownBy w (some R)) : (∀ b o, b < a.heap.size → ¬ b = R → w.cell? ⟨b, o, none⟩ = a.cell? ⟨b, o, none⟩) ∧ (∀ b o, b < a.heap.size → ¬ b = R → w.frozen? ⟨b, o, none⟩ = a.frozen? ⟨b, o, none⟩) :=
  ⟨fun b o hl hne => World.cell?_of_block (a := ⟨b, o, none⟩) (h.block b hl (by simpa using hne)), fun b o hl hne => World.frozen?_of_block (a := ⟨b, o, none⟩) (h.block b hl (by simpa using hne))⟩
theorem gb_below (h : Below a.heap.size a w) : a.grownBy w r := ⟨h.os, h.tape, h.output, h.size, fun i hi _ => h.block i hi⟩
end

/-- The reader's block: the bytes, and how far it is. -/
def RB (w : World) (R : Nat) (A : Option Addr) (n cap at_ : Nat) : Prop := w.heap[R]? = some (.cells #[.slice A n cap, .int .i64 at_] 149 (0, 0))
theorem RB.lt {w : World} {R : Nat} {A : Option Addr} {n cap k : Nat} (h : RB w R A n cap k) : R < w.heap.size := (Array.getElem?_eq_some_iff.1 h).1
theorem RB.b {w : World} {R : Nat} {A : Option Addr} {n cap k : Nat} (h : RB w R A n cap k) : w.cell? ⟨R, 0, none⟩ = some (.slice A n cap) := by
  simp [World.cell?, show w.heap[R]? = _ from h]
theorem RB.at_ {w : World} {R : Nat} {A : Option Addr} {n cap k : Nat} (h : RB w R A n cap k) : w.cell? ⟨R, 1, none⟩ = some (.int .i64 k) := by
  simp [World.cell?, show w.heap[R]? = _ from h]
theorem RB.free {w : World} {R : Nat} {A : Option Addr} {n cap k : Nat} (h : RB w R A n cap k) (j : Nat) : w.frozen? ⟨R, j, none⟩ = false := by
  simp [World.frozen?, show w.heap[R]? = _ from h]
theorem RB.set {w : World} {R : Nat} {A : Option Addr} {n cap k : Nat} (h : RB w R A n cap k) (m : Nat) : RB (w.setCell ⟨R, 1, none⟩ (.int .i64 m)) R A n cap m := by
  have hlt := h.lt
  unfold RB at h ⊢
  show (w.heap.modify R _)[R]? = _
  have h' : w.heap[R] = _ := (Array.getElem?_eq_some_iff.1 h).2
  rw [Array.getElem?_eq_getElem (by simpa using hlt), Array.getElem_modify_self, h']
  rfl
theorem RB.below {w w' : World} {R : Nat} {A : Option Addr} {n cap k : Nat} (h : RB w R A n cap k) (hb : Below w.heap.size w w') : RB w' R A n cap k := (hb.block R h.lt).trans h
theorem RB.other {w : World} {R : Nat} {A : Option Addr} {n cap k : Nat} (h : RB w R A n cap k) {p : Addr} (hp : R ≠ p.block) (v : Value) : RB (w.setCell p v) R A n cap k := (Below.heap_setCell _ _ _ _ hp).trans h
theorem RB.alloc {w : World} {R : Nat} {A : Option Addr} {n cap k : Nat} (h : RB w R A n cap k) (o : Obj) : RB (w.alloc o) R A n cap k := h.below ((Below.refl _ _).alloc (Nat.le_refl _) o)
theorem grown_of_below {w w' : World} (hb : Below w.heap.size w w') (row : Option Nat) : w.grownBy w' row := ⟨hb.os, hb.tape, hb.output, hb.size, fun i hi _ => hb.block i hi⟩
theorem Bs.turn {w w' : World} {A B : Option Addr} {n m cap k R : Nat} {xs : List UInt8} (h : Bs w A n xs) (hr : RB w R B m cap k) (hg : w.grownBy w' (some R)) : Bs w' A n xs := by
  refine ⟨h.1, h.2.1, fun hn => ?_⟩
  obtain ⟨b, off, e, hl, hc⟩ := h.2.2 hn
  have hne : b ≠ R := by
    rintro rfl
    have h0 := hc 0 hn
    have hb : w.heap[b]? = _ := hr
    simp only [World.cell?, hb] at h0
    match off, h0 with
    | 0, h0 => simp at h0
    | 1, h0 => simp at h0
    | k + 2, h0 => simp at h0
  refine ⟨b, off, e, Nat.lt_of_lt_of_le hl hg.size, fun j hj => ?_⟩
  rw [World.cell?_of_block (a := ⟨b, off + j, none⟩) (hg.block b hl (by simpa using hne))]
  exact hc j hj

/-- What a part of the reading comes to: a value, and the reader so much further; or the panic. -/
def RdPost {α : Type} (p : Ps α) (enc : α → Value) (R : Nat) (A : Option Addr) (n cap at_ : Nat) (xs : List UInt8) (w : World) (e : Ending) (w' : World) : Prop :=
  (∃ v k, p (xs.drop at_) = .ok (v, k) ∧ at_ + k ≤ n ∧ e = .returned (enc v) ∧ RB w' R A n cap (at_ + k) ∧ w.grownBy w' (some R)) ∨
  (∃ er, p (xs.drop at_) = .error er ∧ e = .panicked (wr er) ∧ w.grownBy w' (some R))

def eNum (n : Nat) : Value := .int .u32 n
def eLong (n : Nat) : Value := .int .u64 n
def eYes (b : Bool) : Value := .bool b

section
variable {R : Nat} {A : Option Addr} {n cap k : Nat} {xs : List UInt8} {w : World}
theorem grown_set (w : World) (R j : Nat) (v : Value) : w.grownBy (w.setCell ⟨R, j, none⟩ v) (some R) :=
  ⟨rfl, rfl, rfl, by simp [World.setCell], fun i hi hne => Below.heap_setCell _ _ _ _ (by simpa using hne)⟩
theorem grown_drewN (w : World) (m : Nat) (row : Option Nat) : w.grownBy (w.drewN m) row := ⟨rfl, rfl, rfl, Nat.le_refl _, fun _ _ _ => rfl⟩
theorem Bs.drewN {B : Option Addr} {m : Nat} {ys : List UInt8} (h : Bs w B m ys) (j : Nat) : Bs (w.drewN j) B m ys := h.below ⟨rfl, rfl, rfl, Nat.le_refl _, fun _ _ => rfl⟩
theorem RB.drewN (h : RB w R A n cap k) (m : Nat) : RB (w.drewN m) R A n cap k := h

set_option maxRecDepth 100000 in
set_option maxHeartbeats 2000000 in
theorem next32_any (hR : RB w R A n cap k) (hB : Bs w A n xs) (hc : n ≤ cap) (hk : k ≤ n) :
    Calls Tryz.prog 116 #[.pointer (some ⟨R, 0, none⟩), .func (.func 73) #[] #[], .int .i64 4] w (RdPost pNum eNum R A n cap k xs w) := by
  have h0 := hR.b; have h1 := hR.at_; have hf := hR.free 1
  have hn := hB.2.1
  have HR := Lib.hid hR; have HB := Lib.hid hB
  by_cases hs : n - k < 4
  · have hp : Hid (pNum (xs.drop k) = .error 4) := by simp [Hid, pNum, hB.1, hs]
    clear hR hB
    rcases Nat.lt_or_ge k cap with hck | hck
    · have hD := Lib.hid (HB.out.from_lt k hk hck)
      have hne : ¬ cap = k := by omega
      go_enter Tryz.func116, Tryz.ntmps116
      go_wp2_with fail
      go_quiet ((go_at_call 73; refine (Get_short _ _ _ _ _ (hD.out.drewN _) hs).mono ?_; rintro e w' ⟨rfl, rfl⟩; exact ⟨rfl, _, rfl⟩))
      go_wp2_with (go_at_call 31; refine (must_no _ _).mono ?_; rintro e w' ⟨rfl, rfl⟩)
      exact ⟨rfl, .inr ⟨4, hp.out, rfl, grown_drewN _ _ _⟩⟩
    · obtain rfl : n = cap := by omega
      obtain rfl : k = n := by omega
      have hD := Lib.hid (Bs.nil w A)
      go_enter Tryz.func116, Tryz.ntmps116
      go_wp2_with fail
      go_quiet ((go_at_call 73; refine (Get_short _ _ _ _ _ (hD.out.drewN _) (by omega)).mono ?_; rintro e w' ⟨rfl, rfl⟩; exact ⟨rfl, _, rfl⟩))
      go_wp2_with (go_at_call 31; refine (must_no _ _).mono ?_; rintro e w' ⟨rfl, rfl⟩)
      exact ⟨rfl, .inr ⟨4, hp.out, rfl, grown_drewN _ _ _⟩⟩
  · have hp : Hid (pNum (xs.drop k) = .ok (beN ((xs.drop k).take 4), 4)) := by simp [Hid, pNum, hB.1, hs]
    clear hR hB
    have hc' : n - k ≤ cap - k := by omega
    have hs' : 4 ≤ n - k := by omega
    have hck : k < cap := by omega
    have hD := Lib.hid (HB.out.from_lt k hk hck)
    have hne : ¬ cap = k := by omega
    have hl : k + 4 ≤ n := by omega
    clear hs
    go_enter Tryz.func116, Tryz.ntmps116
    go_wp2_with fail
    go_quiet ((go_at_call 73; refine (Get_full _ _ _ _ _ (hD.out.drewN _) hc' hs').mono ?_; rintro e w' ⟨rfl, rfl⟩; exact ⟨rfl, _, rfl⟩))
    go_wp2_with (go_at_call 31; refine (must_yes _ _).mono ?_; rintro e w' ⟨rfl, rfl⟩)
    go_ret
    refine .inl ⟨_, 4, hp.out, hl, rfl, ?_, ?_⟩
    · exact (RB.drewN HR.out nq).set (k + 4)
    · exact (grown_drewN w nq (some R)).trans (grown_set _ R 1 _)
set_option maxRecDepth 100000 in
set_option maxHeartbeats 2000000 in
theorem next64_any (hR : RB w R A n cap k) (hB : Bs w A n xs) (hc : n ≤ cap) (hk : k ≤ n) :
    Calls Tryz.prog 117 #[.pointer (some ⟨R, 0, none⟩), .func (.func 71) #[] #[], .int .i64 8] w (RdPost pLong eLong R A n cap k xs w) := by
  have h0 := hR.b; have h1 := hR.at_; have hf := hR.free 1
  have hn := hB.2.1
  have HR := Lib.hid hR; have HB := Lib.hid hB
  by_cases hs : n - k < 8
  · have hp : Hid (pLong (xs.drop k) = .error 4) := by simp [Hid, pLong, hB.1, hs]
    clear hR hB
    rcases Nat.lt_or_ge k cap with hck | hck
    · have hD := Lib.hid (HB.out.from_lt k hk hck)
      have hne : ¬ cap = k := by omega
      go_enter Tryz.func117, Tryz.ntmps117
      go_wp2_with fail
      go_quiet ((go_at_call 71; refine (GetLong_short _ _ _ _ _ (hD.out.drewN _) hs).mono ?_; rintro e w' ⟨rfl, rfl⟩; exact ⟨rfl, _, rfl⟩))
      go_wp2_with (go_at_call 31; refine (must_no _ _).mono ?_; rintro e w' ⟨rfl, rfl⟩)
      exact ⟨rfl, .inr ⟨4, hp.out, rfl, grown_drewN _ _ _⟩⟩
    · obtain rfl : n = cap := by omega
      obtain rfl : k = n := by omega
      have hD := Lib.hid (Bs.nil w A)
      go_enter Tryz.func117, Tryz.ntmps117
      go_wp2_with fail
      go_quiet ((go_at_call 71; refine (GetLong_short _ _ _ _ _ (hD.out.drewN _) (by omega)).mono ?_; rintro e w' ⟨rfl, rfl⟩; exact ⟨rfl, _, rfl⟩))
      go_wp2_with (go_at_call 31; refine (must_no _ _).mono ?_; rintro e w' ⟨rfl, rfl⟩)
      exact ⟨rfl, .inr ⟨4, hp.out, rfl, grown_drewN _ _ _⟩⟩
  · have hp : Hid (pLong (xs.drop k) = .ok (beN ((xs.drop k).take 8), 8)) := by simp [Hid, pLong, hB.1, hs]
    clear hR hB
    have hc' : n - k ≤ cap - k := by omega
    have hs' : 8 ≤ n - k := by omega
    have hck : k < cap := by omega
    have hD := Lib.hid (HB.out.from_lt k hk hck)
    have hne : ¬ cap = k := by omega
    have hl : k + 8 ≤ n := by omega
    clear hs
    go_enter Tryz.func117, Tryz.ntmps117
    go_wp2_with fail
    go_quiet ((go_at_call 71; refine (GetLong_full _ _ _ _ _ (hD.out.drewN _) hc' hs').mono ?_; rintro e w' ⟨rfl, rfl⟩; exact ⟨rfl, _, rfl⟩))
    go_wp2_with (go_at_call 31; refine (must_yes _ _).mono ?_; rintro e w' ⟨rfl, rfl⟩)
    go_ret
    refine .inl ⟨_, 8, hp.out, hl, rfl, ?_, ?_⟩
    · exact (RB.drewN HR.out nq).set (k + 8)
    · exact (grown_drewN w nq (some R)).trans (grown_set _ R 1 _)
set_option maxRecDepth 100000 in
set_option maxHeartbeats 2000000 in
theorem nextYes_any (hR : RB w R A n cap k) (hB : Bs w A n xs) (hc : n ≤ cap) (hk : k ≤ n) :
    Calls Tryz.prog 125 #[.pointer (some ⟨R, 0, none⟩), .func (.func 111) #[] #[], .int .i64 4] w (RdPost pYes eYes R A n cap k xs w) := by
  have h0 := hR.b; have h1 := hR.at_; have hf := hR.free 1
  have hn := hB.2.1
  have HR := Lib.hid hR; have HB := Lib.hid hB
  obtain ⟨A', hD0, hA'⟩ : ∃ A', Bs w A' (n - k) (xs.drop k) ∧ A' = if cap = k then A else Option.map (fun x => x.add k) A := by
    by_cases hck : cap = k
    · exact ⟨A, HB.out.from_end hk (by omega), by rw [if_pos hck]⟩
    · exact ⟨_, HB.out.from_lt k hk (show k < cap by omega), by rw [if_neg hck]⟩
  have hc' : n - k ≤ cap - k := by omega
  have hex : (∃ y, pYes (xs.drop k) = .ok (y, 4) ∧ yesOf (xs.drop k) = (y, 0) ∧ k + 4 ≤ n) ∨ (∃ e, pYes (xs.drop k) = .error e ∧ yesOf (xs.drop k) = (false, e) ∧ ((e == 0) = false)) := by
    have hl : (xs.drop k).length = n - k := by rw [List.length_drop, hB.1]
    by_cases h4 : n - k < 4
    · exact .inr ⟨4, by simp [pYes, hl, h4], by simp [yesOf, pYes, hl, h4], rfl⟩
    · by_cases h1 : beN ((xs.drop k).take 4) > 1
      · exact .inr ⟨5, by simp only [pYes, hl, h4, if_false, h1, if_true], by simp only [yesOf, pYes, hl, h4, if_false, h1, if_true], rfl⟩
      · exact .inl ⟨beN ((xs.drop k).take 4) == 1, by simp only [pYes, hl, h4, if_false, h1], by simp only [yesOf, pYes, hl, h4, if_false, h1], by omega⟩
  clear hR hB
  rcases hex with ⟨y, hp, hy, hl⟩ | ⟨er, hp, hy, he0⟩
  · have hp := Lib.hid hp
    have hck : k < cap := by omega
    have hD := Lib.hid (HB.out.from_lt k hk hck)
    have hne : ¬ cap = k := by omega
    have hG := Lib.hid (fun w => GetYes_any (Option.map (fun x => x.add k) A) (n - k) (cap - k) (xs.drop k) w)
    rw [hy] at hG
    clear hD0 hA' hy
    go_enter Tryz.func125, Tryz.ntmps125
    go_wp2_with fail
    go_quiet ((go_at_call 111; refine (hG.out _ (hD.out.drewN _) hc').mono ?_; rintro e w' ⟨rfl, rfl⟩; exact ⟨rfl, _, rfl⟩))
    go_wp2_with (go_at_call 31; refine (must_yes _ _).mono ?_; rintro e w' ⟨rfl, rfl⟩)
    go_ret
    refine .inl ⟨_, 4, Hid.out ‹Hid (pYes _ = _)›, hl, rfl, ?_, ?_⟩
    · exact (RB.drewN HR.out nq).set (k + 4)
    · exact (grown_drewN w nq (some R)).trans (grown_set _ R 1 _)
  · have hp := Lib.hid hp
    rcases Nat.lt_or_ge k cap with hck | hck
    · have hD := Lib.hid (HB.out.from_lt k hk hck)
      have hne : ¬ cap = k := by omega
      have hG := Lib.hid (fun w => GetYes_any (Option.map (fun x => x.add k) A) (n - k) (cap - k) (xs.drop k) w)
      rw [hy] at hG
      clear hD0 hA' hy
      go_enter Tryz.func125, Tryz.ntmps125
      go_wp2_with fail
      go_quiet ((go_at_call 111; refine (hG.out _ (hD.out.drewN _) hc').mono ?_; rintro e w' ⟨rfl, rfl⟩; exact ⟨rfl, _, rfl⟩))
      go_wp2_with (go_at_call 31; refine (must_no _ _).mono ?_; rintro e w' ⟨rfl, rfl⟩)
      exact ⟨rfl, .inr ⟨er, Hid.out ‹Hid (pYes _ = _)›, rfl, grown_drewN _ _ _⟩⟩
    · obtain rfl : n = cap := by omega
      obtain rfl : k = n := by omega
      have hD := Lib.hid (Bs.nil w A)
      have hG := Lib.hid (fun w => GetYes_any A 0 0 [] w)
      have he : xs.drop k = [] := List.eq_nil_of_length_eq_zero (by rw [List.length_drop, HB.out.1]; omega)
      rw [he] at hy
      rw [hy] at hG
      clear hD0 hA' hy he
      go_enter Tryz.func125, Tryz.ntmps125
      go_wp2_with fail
      go_quiet ((go_at_call 111; refine (hG.out _ (hD.out.drewN _) (Nat.le_refl 0)).mono ?_; rintro e w' ⟨rfl, rfl⟩; exact ⟨rfl, _, rfl⟩))
      go_wp2_with (go_at_call 31; refine (must_no _ _).mono ?_; rintro e w' ⟨rfl, rfl⟩)
      exact ⟨rfl, .inr ⟨er, Hid.out ‹Hid (pYes _ = _)›, rfl, grown_drewN _ _ _⟩⟩
theorem number_any (hR : RB w R A n cap k) (hB : Bs w A n xs) (hc : n ≤ cap) (hk : k ≤ n) :
    Calls Tryz.prog 97 #[.pointer (some ⟨R, 0, none⟩)] w (RdPost pNum eNum R A n cap k xs w) := by
  have HR := Lib.hid hR; have HB := Lib.hid hB
  clear hR hB
  go_enter Tryz.func97, Tryz.ntmps97
  go_wp2_with fail
  refine (next32_any HR.out HB.out hc hk).mono ?_
  rintro e w' (⟨v, j, hp, hl, rfl, h⟩ | ⟨er, hp, rfl, hg⟩)
  · have hp := Lib.hid hp; have h := Lib.hid h
    go_wp2
    go_ret
    exact .inl ⟨v, j, Hid.out ‹Hid (pNum _ = _)›, hl, rfl, Hid.out ‹_›⟩
  · have hp := Lib.hid hp; have hg := Lib.hid hg
    go_wp2
    exact ⟨rfl, .inr ⟨er, Hid.out ‹Hid (pNum _ = _)›, rfl, Hid.out ‹_›⟩⟩
theorem long_any (hR : RB w R A n cap k) (hB : Bs w A n xs) (hc : n ≤ cap) (hk : k ≤ n) :
    Calls Tryz.prog 99 #[.pointer (some ⟨R, 0, none⟩)] w (RdPost pLong eLong R A n cap k xs w) := by
  have HR := Lib.hid hR; have HB := Lib.hid hB
  clear hR hB
  go_enter Tryz.func99, Tryz.ntmps99
  go_wp2_with fail
  refine (next64_any HR.out HB.out hc hk).mono ?_
  rintro e w' (⟨v, j, hp, hl, rfl, h⟩ | ⟨er, hp, rfl, hg⟩)
  · have hp := Lib.hid hp; have h := Lib.hid h
    go_wp2
    go_ret
    exact .inl ⟨v, j, Hid.out ‹Hid (pLong _ = _)›, hl, rfl, Hid.out ‹_›⟩
  · have hp := Lib.hid hp; have hg := Lib.hid hg
    go_wp2
    exact ⟨rfl, .inr ⟨er, Hid.out ‹Hid (pLong _ = _)›, rfl, Hid.out ‹_›⟩⟩
theorem yes_any (hR : RB w R A n cap k) (hB : Bs w A n xs) (hc : n ≤ cap) (hk : k ≤ n) :
    Calls Tryz.prog 115 #[.pointer (some ⟨R, 0, none⟩)] w (RdPost pYes eYes R A n cap k xs w) := by
  have HR := Lib.hid hR; have HB := Lib.hid hB
  clear hR hB
  go_enter Tryz.func115, Tryz.ntmps115
  go_wp2_with fail
  refine (nextYes_any HR.out HB.out hc hk).mono ?_
  rintro e w' (⟨v, j, hp, hl, rfl, h⟩ | ⟨er, hp, rfl, hg⟩)
  · have hp := Lib.hid hp; have h := Lib.hid h
    go_wp2
    go_ret
    exact .inl ⟨v, j, Hid.out ‹Hid (pYes _ = _)›, hl, rfl, Hid.out ‹_›⟩
  · have hp := Lib.hid hp; have hg := Lib.hid hg
    go_wp2
    exact ⟨rfl, .inr ⟨er, Hid.out ‹Hid (pYes _ = _)›, rfl, Hid.out ‹_›⟩⟩
end
end Go.Proofs.YtgmhapjidbdhnaaGreat
namespace Go.Proofs.YtgmhapjidbdhnaaGreat
open Go.RowKit

/-- What is told of a node. -/
structure At where
  kind : Nat
  mode : Nat
  links : Nat
  user : Nat
  group : Nat
  size : Nat
  used : Nat
  id : Nat
  read : Tm
  write : Tm
  turn : Tm
  deriving DecidableEq
def At.zero : At := ⟨0, 0, 0, 0, 0, 0, 0, 0, ⟨0, 0⟩, ⟨0, 0⟩, ⟨0, 0⟩⟩
def f4 (b : List UInt8) (i : Nat) : Nat := beN ((b.drop i).take 4)
def f8 (b : List UInt8) (i : Nat) : Nat := beN ((b.drop i).take 8)
def tm (b : List UInt8) (i : Nat) : Tm := ⟨f8 b i / 4294967296, f8 b i % 4294967296⟩
def Tm.ok (t : Tm) : Bool := decide (t.nano < 1000000000)
def kindOk (k m : Nat) : Bool := (k == 1 || k == 2 || k == 5) && decide (m ≤ 4095)
theorem f4_drop (b : List UInt8) (j i : Nat) : f4 (b.drop j) i = f4 b (j + i) := by simp [f4, List.drop_drop]
theorem f8_drop (b : List UInt8) (j i : Nat) : f8 (b.drop j) i = f8 b (j + i) := by simp [f8, List.drop_drop]
theorem tm_drop (b : List UInt8) (j i : Nat) : tm (b.drop j) i = tm b (j + i) := by simp [tm, f8_drop]
def atOf (b : List UInt8) : At := ⟨f4 b 0, f4 b 4, f4 b 8, f4 b 12, f4 b 16, f8 b 20, f8 b 28, f8 b 52, tm b 60, tm b 68, tm b 76⟩
def atMay (b : List UInt8) : Bool := f8 b 36 == 0 && (f8 b 44 == 1 && ((tm b 60).ok && ((tm b 68).ok && ((tm b 76).ok && kindOk (f4 b 0) (f4 b 4)))))
/-- What is told of a node, next: 84 bytes. -/
def pAttrs : Ps At := fun b => if b.length < 84 then .error 4 else if atMay b then .ok (atOf b, 84) else .error 5
theorem pTime_ok {b : List UInt8} (h : 8 ≤ b.length) (ho : (tm b 0).ok = true) : pTime b = .ok (tm b 0, 8) := by
  have ho' : beN (b.take 8) % 4294967296 < 1000000000 := by simpa [Tm.ok, tm, f8] using ho
  rw [pTime, if_neg (by omega), if_pos ho']
  rfl
theorem pTime_bad {b : List UInt8} (h : 8 ≤ b.length) (ho : (tm b 0).ok = false) : pTime b = .error 5 := by
  have ho' : ¬ beN (b.take 8) % 4294967296 < 1000000000 := by simpa [Tm.ok, tm, f8] using ho
  rw [pTime, if_neg (by omega), if_neg ho']
def pHow : Ps (Nat × Tm) := Ps.bind pNum fun h => Ps.bind (Ps.need (decide (h ≤ 2)) 5) fun _ => if h = 2 then Ps.bind pTime fun t => Ps.pure (h, t) else Ps.pure (h, ⟨0, 0⟩)
/-- Yes, and what is had; or no, and zero. -/
def pHad {α : Type} (p : Ps α) (z : α) : Ps (α × Bool) := Ps.bind pYes fun y => if y then Ps.bind p fun x => Ps.pure (x, true) else Ps.pure (z, false)
def pMode : Ps Nat := Ps.bind pNum fun n => Ps.bind (Ps.need (decide (n ≤ 4095)) 5) fun _ => Ps.pure n
/-- What is to be set. -/
structure St where
  hasMode : Bool
  mode : Nat
  hasUser : Bool
  user : Nat
  hasGroup : Bool
  group : Nat
  hasSize : Bool
  size : Nat
  readHow : Nat
  read : Tm
  writeHow : Nat
  write : Tm
  deriving DecidableEq
def St.zero : St := ⟨false, 0, false, 0, false, 0, false, 0, 0, ⟨0, 0⟩, 0, ⟨0, 0⟩⟩
def pSet : Ps St := Ps.bind (pHad pMode 0) fun m => Ps.bind (pHad pNum 0) fun u => Ps.bind (pHad pNum 0) fun g => Ps.bind (pHad pLong 0) fun s => Ps.bind pHow fun r => Ps.bind pHow fun w =>
  Ps.pure ⟨m.2, m.1, u.2, u.1, g.2, g.1, s.2, s.1, r.1, r.2, w.1, w.2⟩
/-- What was told ahead and behind. -/
structure Wk where
  hasBefore : Bool
  size : Nat
  write : Tm
  turn : Tm
  hasAfter : Bool
  after : At
  deriving DecidableEq
def Wk.zero : Wk := ⟨false, 0, ⟨0, 0⟩, ⟨0, 0⟩, false, At.zero⟩
def pBefore : Ps (Nat × Tm × Tm) := Ps.bind pLong fun s => Ps.bind pTime fun w => Ps.bind pTime fun t => Ps.pure (s, w, t)
def pWeak : Ps Wk := Ps.bind (pHad pBefore (0, ⟨0, 0⟩, ⟨0, 0⟩)) fun b => Ps.bind (pHad pAttrs At.zero) fun a => Ps.pure ⟨b.2, b.1.1, b.1.2.1, b.1.2.2, a.2, a.1⟩

end Go.Proofs.YtgmhapjidbdhnaaGreat

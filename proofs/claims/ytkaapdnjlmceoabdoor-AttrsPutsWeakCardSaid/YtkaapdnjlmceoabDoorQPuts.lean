/- What a Put gives, whichever way it ends: bytes of its own (none on an error) and the error's number. -/
import Derived.Test.YtkaapdnjlmceoabDoorBookE
import Derived.Deep.RegionLaw
import Derived.Test.YtkaapdnjlmceoabDoorLaw1
import Derived.Test.YtkaapdnjlmceoabDoorBig
import Derived.Test.YtkaapdnjlmceoabDoorDPut
import Derived.Laws.AppendOwnNone
set_option linter.unusedVariables false
set_option linter.unusedSimpArgs false
namespace Go.Proofs.YtkaapdnjlmceoabDoor
open Go.RowKit
section
variable {K : Nat} {w : World}
set_option maxRecDepth 100000 in
set_option maxHeartbeats 1000000 in
theorem fillNumber_none (h : w.cell? ⟨K, 2, none⟩ = some (.slice none 0 0)) : Calls Tryd.prog 38 #[.pointer (some ⟨K, 0, none⟩)] w fun e w' => e = .returned (.tuple #[]) ∧ w = w' := by
  go_enter Tryd.func38, Tryd.ntmps38
  go_wp2_with fail
  go_loopw [2, 3, 4] (fun s2 s3 s4 wr => s2 = .int .i64 0 ∧ w = wr) (fun s2 _ _ wr => 0)
  case atStart => exact ⟨rfl, rfl⟩
  case round =>
    obtain ⟨rfl, rfl⟩ := hrel
    go_wp2_with fail
    go_end0
    exact ⟨rfl, rfl⟩
set_option maxRecDepth 100000 in
set_option maxHeartbeats 1000000 in
theorem growNumber_none (h : w.cell? ⟨K, 2, none⟩ = some (.slice none 0 0)) : Calls Tryd.prog 45 #[.pointer (some ⟨K, 0, none⟩)] w fun e w' => e = .returned (.tuple #[]) ∧ w = w' := by
  go_enter Tryd.func45, Tryd.ntmps45
  go_wp2_with fail
  go_loopw [2, 3, 4, 5] (fun s2 s3 s4 s5 wr => s2 = .int .i64 0 ∧ w = wr) (fun s2 _ _ _ wr => 0)
  case atStart => exact ⟨rfl, rfl⟩
  case round =>
    obtain ⟨rfl, rfl⟩ := hrel
    go_wp2_with fail
    go_end0
    exact ⟨rfl, rfl⟩
set_option maxRecDepth 100000 in
set_option maxHeartbeats 1000000 in
theorem lookNumber_none (h : w.cell? ⟨K, 2, none⟩ = some (.slice none 0 0)) : Calls Tryd.prog 52 #[.pointer (some ⟨K, 0, none⟩)] w fun e w' => e = .returned (.bool true) ∧ w = w' := by
  go_enter Tryd.func52, Tryd.ntmps52
  go_wp2_with fail
  go_loopw [3, 4, 5] (fun s3 s4 s5 wr => s3 = .int .i64 0 ∧ w = wr) (fun s3 _ _ wr => 0)
  case atStart => exact ⟨rfl, rfl⟩
  case round =>
    obtain ⟨rfl, rfl⟩ := hrel
    go_wp2_with fail
    go_ret
    exact ⟨rfl, rfl⟩
set_option maxRecDepth 100000 in
set_option maxHeartbeats 1000000 in
theorem fillText_none (h : w.cell? ⟨K, 3, none⟩ = some (.slice none 0 0)) : Calls Tryd.prog 39 #[.pointer (some ⟨K, 0, none⟩)] w fun e w' => e = .returned (.tuple #[]) ∧ w = w' := by
  go_enter Tryd.func39, Tryd.ntmps39
  go_wp2_with fail
  go_loopw [2, 3, 4] (fun s2 s3 s4 wr => s2 = .int .i64 0 ∧ w = wr) (fun s2 _ _ wr => 0)
  case atStart => exact ⟨rfl, rfl⟩
  case round =>
    obtain ⟨rfl, rfl⟩ := hrel
    go_wp2_with fail
    go_end0
    exact ⟨rfl, rfl⟩
set_option maxRecDepth 100000 in
set_option maxHeartbeats 1000000 in
theorem growText_none (h : w.cell? ⟨K, 3, none⟩ = some (.slice none 0 0)) : Calls Tryd.prog 46 #[.pointer (some ⟨K, 0, none⟩)] w fun e w' => e = .returned (.tuple #[]) ∧ w = w' := by
  go_enter Tryd.func46, Tryd.ntmps46
  go_wp2_with fail
  go_loopw [2, 3, 4, 5] (fun s2 s3 s4 s5 wr => s2 = .int .i64 0 ∧ w = wr) (fun s2 _ _ _ wr => 0)
  case atStart => exact ⟨rfl, rfl⟩
  case round =>
    obtain ⟨rfl, rfl⟩ := hrel
    go_wp2_with fail
    go_end0
    exact ⟨rfl, rfl⟩
set_option maxRecDepth 100000 in
set_option maxHeartbeats 1000000 in
theorem lookText_none (h : w.cell? ⟨K, 3, none⟩ = some (.slice none 0 0)) : Calls Tryd.prog 53 #[.pointer (some ⟨K, 0, none⟩)] w fun e w' => e = .returned (.bool true) ∧ w = w' := by
  go_enter Tryd.func53, Tryd.ntmps53
  go_wp2_with fail
  go_loopw [3, 4, 5] (fun s3 s4 s5 wr => s3 = .int .i64 0 ∧ w = wr) (fun s3 _ _ wr => 0)
  case atStart => exact ⟨rfl, rfl⟩
  case round =>
    obtain ⟨rfl, rfl⟩ := hrel
    go_wp2_with fail
    go_ret
    exact ⟨rfl, rfl⟩
set_option maxRecDepth 100000 in
set_option maxHeartbeats 1000000 in
theorem fillBlob_none (h : w.cell? ⟨K, 4, none⟩ = some (.slice none 0 0)) : Calls Tryd.prog 40 #[.pointer (some ⟨K, 0, none⟩)] w fun e w' => e = .returned (.tuple #[]) ∧ w = w' := by
  go_enter Tryd.func40, Tryd.ntmps40
  go_wp2_with fail
  go_loopw [2, 3, 4] (fun s2 s3 s4 wr => s2 = .int .i64 0 ∧ w = wr) (fun s2 _ _ wr => 0)
  case atStart => exact ⟨rfl, rfl⟩
  case round =>
    obtain ⟨rfl, rfl⟩ := hrel
    go_wp2_with fail
    go_end0
    exact ⟨rfl, rfl⟩
set_option maxRecDepth 100000 in
set_option maxHeartbeats 1000000 in
theorem growBlob_none (h : w.cell? ⟨K, 4, none⟩ = some (.slice none 0 0)) : Calls Tryd.prog 47 #[.pointer (some ⟨K, 0, none⟩)] w fun e w' => e = .returned (.tuple #[]) ∧ w = w' := by
  go_enter Tryd.func47, Tryd.ntmps47
  go_wp2_with fail
  go_loopw [2, 3, 4, 5] (fun s2 s3 s4 s5 wr => s2 = .int .i64 0 ∧ w = wr) (fun s2 _ _ _ wr => 0)
  case atStart => exact ⟨rfl, rfl⟩
  case round =>
    obtain ⟨rfl, rfl⟩ := hrel
    go_wp2_with fail
    go_end0
    exact ⟨rfl, rfl⟩
set_option maxRecDepth 100000 in
set_option maxHeartbeats 1000000 in
theorem lookBlob_none (h : w.cell? ⟨K, 4, none⟩ = some (.slice none 0 0)) : Calls Tryd.prog 54 #[.pointer (some ⟨K, 0, none⟩)] w fun e w' => e = .returned (.bool true) ∧ w = w' := by
  go_enter Tryd.func54, Tryd.ntmps54
  go_wp2_with fail
  go_loopw [3, 4, 5] (fun s3 s4 s5 wr => s3 = .int .i64 0 ∧ w = wr) (fun s3 _ _ wr => 0)
  case atStart => exact ⟨rfl, rfl⟩
  case round =>
    obtain ⟨rfl, rfl⟩ := hrel
    go_wp2_with fail
    go_ret
    exact ⟨rfl, rfl⟩
set_option maxRecDepth 100000 in
set_option maxHeartbeats 1000000 in
theorem fillItem_none (h : w.cell? ⟨K, 5, none⟩ = some (.slice none 0 0)) : Calls Tryd.prog 41 #[.pointer (some ⟨K, 0, none⟩)] w fun e w' => e = .returned (.tuple #[]) ∧ w = w' := by
  go_enter Tryd.func41, Tryd.ntmps41
  go_wp2_with fail
  go_loopw [2, 3, 4] (fun s2 s3 s4 wr => s2 = .int .i64 0 ∧ w = wr) (fun s2 _ _ wr => 0)
  case atStart => exact ⟨rfl, rfl⟩
  case round =>
    obtain ⟨rfl, rfl⟩ := hrel
    go_wp2_with fail
    go_end0
    exact ⟨rfl, rfl⟩
set_option maxRecDepth 100000 in
set_option maxHeartbeats 1000000 in
theorem growItem_none (h : w.cell? ⟨K, 5, none⟩ = some (.slice none 0 0)) : Calls Tryd.prog 48 #[.pointer (some ⟨K, 0, none⟩)] w fun e w' => e = .returned (.tuple #[]) ∧ w = w' := by
  go_enter Tryd.func48, Tryd.ntmps48
  go_wp2_with fail
  go_loopw [2, 3, 4, 5] (fun s2 s3 s4 s5 wr => s2 = .int .i64 0 ∧ w = wr) (fun s2 _ _ _ wr => 0)
  case atStart => exact ⟨rfl, rfl⟩
  case round =>
    obtain ⟨rfl, rfl⟩ := hrel
    go_wp2_with fail
    go_end0
    exact ⟨rfl, rfl⟩
set_option maxRecDepth 100000 in
set_option maxHeartbeats 1000000 in
theorem lookItem_none (h : w.cell? ⟨K, 5, none⟩ = some (.slice none 0 0)) : Calls Tryd.prog 55 #[.pointer (some ⟨K, 0, none⟩)] w fun e w' => e = .returned (.bool true) ∧ w = w' := by
  go_enter Tryd.func55, Tryd.ntmps55
  go_wp2_with fail
  go_loopw [3, 4, 5] (fun s3 s4 s5 wr => s3 = .int .i64 0 ∧ w = wr) (fun s3 _ _ wr => 0)
  case atStart => exact ⟨rfl, rfl⟩
  case round =>
    obtain ⟨rfl, rfl⟩ := hrel
    go_wp2_with fail
    go_ret
    exact ⟨rfl, rfl⟩
set_option maxRecDepth 100000 in
set_option maxHeartbeats 1000000 in
theorem fillEntry_none (h : w.cell? ⟨K, 6, none⟩ = some (.slice none 0 0)) : Calls Tryd.prog 42 #[.pointer (some ⟨K, 0, none⟩)] w fun e w' => e = .returned (.tuple #[]) ∧ w = w' := by
  go_enter Tryd.func42, Tryd.ntmps42
  go_wp2_with fail
  go_loopw [2, 3, 4] (fun s2 s3 s4 wr => s2 = .int .i64 0 ∧ w = wr) (fun s2 _ _ wr => 0)
  case atStart => exact ⟨rfl, rfl⟩
  case round =>
    obtain ⟨rfl, rfl⟩ := hrel
    go_wp2_with fail
    go_end0
    exact ⟨rfl, rfl⟩
set_option maxRecDepth 100000 in
set_option maxHeartbeats 1000000 in
theorem growEntry_none (h : w.cell? ⟨K, 6, none⟩ = some (.slice none 0 0)) : Calls Tryd.prog 49 #[.pointer (some ⟨K, 0, none⟩)] w fun e w' => e = .returned (.tuple #[]) ∧ w = w' := by
  go_enter Tryd.func49, Tryd.ntmps49
  go_wp2_with fail
  go_loopw [2, 3, 4, 5] (fun s2 s3 s4 s5 wr => s2 = .int .i64 0 ∧ w = wr) (fun s2 _ _ _ wr => 0)
  case atStart => exact ⟨rfl, rfl⟩
  case round =>
    obtain ⟨rfl, rfl⟩ := hrel
    go_wp2_with fail
    go_end0
    exact ⟨rfl, rfl⟩
set_option maxRecDepth 100000 in
set_option maxHeartbeats 1000000 in
theorem lookEntry_none (h : w.cell? ⟨K, 6, none⟩ = some (.slice none 0 0)) : Calls Tryd.prog 56 #[.pointer (some ⟨K, 0, none⟩)] w fun e w' => e = .returned (.bool true) ∧ w = w' := by
  go_enter Tryd.func56, Tryd.ntmps56
  go_wp2_with fail
  go_loopw [3, 4, 5] (fun s3 s4 s5 wr => s3 = .int .i64 0 ∧ w = wr) (fun s3 _ _ wr => 0)
  case atStart => exact ⟨rfl, rfl⟩
  case round =>
    obtain ⟨rfl, rfl⟩ := hrel
    go_wp2_with fail
    go_ret
    exact ⟨rfl, rfl⟩
set_option maxRecDepth 100000 in
set_option maxHeartbeats 1000000 in
theorem fillNode_none (h : w.cell? ⟨K, 7, none⟩ = some (.slice none 0 0)) : Calls Tryd.prog 43 #[.pointer (some ⟨K, 0, none⟩)] w fun e w' => e = .returned (.tuple #[]) ∧ w = w' := by
  go_enter Tryd.func43, Tryd.ntmps43
  go_wp2_with fail
  go_loopw [2, 3, 4] (fun s2 s3 s4 wr => s2 = .int .i64 0 ∧ w = wr) (fun s2 _ _ wr => 0)
  case atStart => exact ⟨rfl, rfl⟩
  case round =>
    obtain ⟨rfl, rfl⟩ := hrel
    go_wp2_with fail
    go_end0
    exact ⟨rfl, rfl⟩
set_option maxRecDepth 100000 in
set_option maxHeartbeats 1000000 in
theorem growNode_none (h : w.cell? ⟨K, 7, none⟩ = some (.slice none 0 0)) : Calls Tryd.prog 50 #[.pointer (some ⟨K, 0, none⟩)] w fun e w' => e = .returned (.tuple #[]) ∧ w = w' := by
  go_enter Tryd.func50, Tryd.ntmps50
  go_wp2_with fail
  go_loopw [2, 3, 4, 5] (fun s2 s3 s4 s5 wr => s2 = .int .i64 0 ∧ w = wr) (fun s2 _ _ _ wr => 0)
  case atStart => exact ⟨rfl, rfl⟩
  case round =>
    obtain ⟨rfl, rfl⟩ := hrel
    go_wp2_with fail
    go_end0
    exact ⟨rfl, rfl⟩
set_option maxRecDepth 100000 in
set_option maxHeartbeats 1000000 in
theorem lookNode_none (h : w.cell? ⟨K, 7, none⟩ = some (.slice none 0 0)) : Calls Tryd.prog 57 #[.pointer (some ⟨K, 0, none⟩)] w fun e w' => e = .returned (.bool true) ∧ w = w' := by
  go_enter Tryd.func57, Tryd.ntmps57
  go_wp2_with fail
  go_loopw [3, 4, 5] (fun s3 s4 s5 wr => s3 = .int .i64 0 ∧ w = wr) (fun s3 _ _ wr => 0)
  case atStart => exact ⟨rfl, rfl⟩
  case round =>
    obtain ⟨rfl, rfl⟩ := hrel
    go_wp2_with fail
    go_ret
    exact ⟨rfl, rfl⟩
end
theorem lookByte_like {m B K G cap : Nat} {w : World} {N : Value} {rest : List Value} {hs hs' : List HB} (hcap : hs.length ≤ cap) (hlen : hs.length ≤ 1000000) (hl : Like hs hs')
    (h : GrSt m B w K G (N :: .slice (some ⟨G, 0, none⟩) hs.length cap :: rest) hs' hs.length hs.length) :
    Calls Tryd.prog 51 #[.pointer (some ⟨K, 0, none⟩)] w fun e w' => e = .returned (.bool true) ∧ Below w.heap.size w w' := by
  have e := hl.1
  rw [← e] at h hcap hlen
  exact lookByte_any hcap hlen h
set_option maxRecDepth 100000 in
set_option maxHeartbeats 4000000 in
/-- Bytes in blocks of their own are apart. -/
theorem Apart_any {m K G cap : Nat} {w : World} {N : Value} {hs : List HB} {ds : Nat → List UInt8} (hcap : hs.length ≤ cap) (hlen : hs.length ≤ 1000000) (hd : ∀ i (hi : i < hs.length), hs[i].l = (ds i).length ∧ hs[i].l ≤ hs[i].c ∧ hs[i].l ≤ 1099511627000)
    (h : BkSt m w K G (N :: .slice (some ⟨G, 0, none⟩) hs.length cap :: [Value.slice none 0 0, .slice none 0 0, .slice none 0 0, .slice none 0 0, .slice none 0 0, .slice none 0 0]) hs ds) (hmw : m ≤ w.heap.size) :
    Calls Tryd.prog 21 #[.pointer (some ⟨K, 0, none⟩)] w fun e w' => e = .returned (.bool true) ∧ Below m w w' := by
  have HF := Lib.hid (fillByte_any hcap hlen (fun i hi => ⟨(hd i hi).1, (hd i hi).2.1, by have := (hd i hi).2.2; omega⟩) h hmw)
  have HD := Lib.hid hd
  clear h hd
  go_enter Tryd.func21, Tryd.ntmps21
  go_wp2_with (first
    | (go_at_call 37; refine Calls.mono HF.out ?_; rintro e w1 ⟨rfl, hS1, hb1⟩; (have hK := hS1.hK); (have HS1 := Lib.hid hS1); clear hS1)
    | (go_at_call 38; refine Calls.mono (fillNumber_none (hK.2.1 2)) ?_; rintro e w' ⟨rfl, rfl⟩)
    | (go_at_call 39; refine Calls.mono (fillText_none (hK.2.1 3)) ?_; rintro e w' ⟨rfl, rfl⟩)
    | (go_at_call 40; refine Calls.mono (fillBlob_none (hK.2.1 4)) ?_; rintro e w' ⟨rfl, rfl⟩)
    | (go_at_call 41; refine Calls.mono (fillItem_none (hK.2.1 5)) ?_; rintro e w' ⟨rfl, rfl⟩)
    | (go_at_call 42; refine Calls.mono (fillEntry_none (hK.2.1 6)) ?_; rintro e w' ⟨rfl, rfl⟩)
    | (go_at_call 43; refine Calls.mono (fillNode_none (hK.2.1 7)) ?_; rintro e w' ⟨rfl, rfl⟩)
    | (go_at_call 44; refine Calls.mono (growByte_any hcap hlen (BkSt.grows (HS1.out.same (fun i hi => by rw [dif_pos hi, dif_pos hi])) (fun i hi => ⟨(HD.out i hi).2.1, (HD.out i hi).2.2⟩))) ?_; rintro e w2 ⟨rfl, hs2, hL2, hS2, hb2⟩; (have hK := hS2.hK); (have HS2 := Lib.hid hS2); (have HL2 := Lib.hid hL2); clear hS2 hL2)
    | (go_at_call 45; refine Calls.mono (growNumber_none (hK.2.1 2)) ?_; rintro e w' ⟨rfl, rfl⟩)
    | (go_at_call 46; refine Calls.mono (growText_none (hK.2.1 3)) ?_; rintro e w' ⟨rfl, rfl⟩)
    | (go_at_call 47; refine Calls.mono (growBlob_none (hK.2.1 4)) ?_; rintro e w' ⟨rfl, rfl⟩)
    | (go_at_call 48; refine Calls.mono (growItem_none (hK.2.1 5)) ?_; rintro e w' ⟨rfl, rfl⟩)
    | (go_at_call 49; refine Calls.mono (growEntry_none (hK.2.1 6)) ?_; rintro e w' ⟨rfl, rfl⟩)
    | (go_at_call 50; refine Calls.mono (growNode_none (hK.2.1 7)) ?_; rintro e w' ⟨rfl, rfl⟩)
    | (go_at_call 51; refine Calls.mono (lookByte_like hcap hlen HL2.out HS2.out) ?_; rintro e w3 ⟨rfl, hb3⟩; (have hK := hK.trk' hb3); (have hb4 : Below m w2 w3 := hb3.mono (by have := hb2.size; have := hb1.size; omega)); clear hb3)
    | (go_at_call 52; refine Calls.mono (lookNumber_none (hK.2.1 2)) ?_; rintro e w' ⟨rfl, rfl⟩)
    | (go_at_call 53; refine Calls.mono (lookText_none (hK.2.1 3)) ?_; rintro e w' ⟨rfl, rfl⟩)
    | (go_at_call 54; refine Calls.mono (lookBlob_none (hK.2.1 4)) ?_; rintro e w' ⟨rfl, rfl⟩)
    | (go_at_call 55; refine Calls.mono (lookItem_none (hK.2.1 5)) ?_; rintro e w' ⟨rfl, rfl⟩)
    | (go_at_call 56; refine Calls.mono (lookEntry_none (hK.2.1 6)) ?_; rintro e w' ⟨rfl, rfl⟩)
    | (go_at_call 57; refine Calls.mono (lookNode_none (hK.2.1 7)) ?_; rintro e w' ⟨rfl, rfl⟩))
  go_ret
  exact ⟨rfl, (hb1.trans hb2).trans hb4⟩
end Go.Proofs.YtkaapdnjlmceoabDoor
namespace Go.Proofs.YtkaapdnjlmceoabDoor
open Go.RowKit
theorem info_held : (Tryd.prog.info? 81).map (fun i => (i.zero, i.size, i.bytes)) = some (some (.agg #[.slice none 0 0, .slice none 0 0, .int .i64 0]), 3, 56) := by kernel_rfl
/-- All blocks below base lie as they lay, but one. -/
structure FrK (base K : Nat) (w w' : World) : Prop where
  os : w'.os = w.os
  tape : w'.tape = w.tape
  output : w'.output = w.output
  size : w.heap.size ≤ w'.heap.size
  block : ∀ j, j < base → j ≠ K → w'.heap[j]? = w.heap[j]?
theorem FrK.refl (base K : Nat) (w : World) : FrK base K w w := ⟨rfl, rfl, rfl, Nat.le_refl _, fun _ _ _ => rfl⟩
theorem FrK.trans {base K : Nat} {a b c : World} (h : FrK base K a b) (k : FrK base K b c) : FrK base K a c :=
  ⟨k.os.trans h.os, k.tape.trans h.tape, k.output.trans h.output, Nat.le_trans h.size k.size, fun j hj hne => (k.block j hj hne).trans (h.block j hj hne)⟩
theorem FrK.setK {base K : Nat} (w : World) (o : Nat) (s : Option Nat) (v : Value) : FrK base K w (w.setCell ⟨K, o, s⟩ v) :=
  ⟨rfl, rfl, rfl, by simp [World.setCell], fun j _ hne => Below.heap_setCell _ _ _ _ hne⟩
theorem FrK.below {base K : Nat} {w w' : World} (h : Below base w w') : FrK base K w w' := ⟨h.os, h.tape, h.output, h.size, fun j hj _ => h.block j hj⟩
theorem FrK.to {base K m : Nat} {w w' : World} (h : FrK base K w w') (hm : m ≤ K) (hb : m ≤ base) : Below m w w' := ⟨h.os, h.tape, h.output, h.size, fun j hj => h.block j (by omega) (by omega)⟩
theorem step_append_held {w : World} {ops : Array Oper} {o : Oper} {a : Act} {K : Act → World → Prop} {Q : Exit → Act → World → Prop} {E : Prop} {base n : Nat} {v : Value} {xs : List Value} (hgd : o.guard = none) (s x : Operand)
    (ho : o.op = .call { callee := .builtin .append, args := #[s, x], argTypes := #[51, 51] })
    (hs : a.eval s = v) (h1 : w.ownsRow base 81 3 v n xs) (g : Nat) (news : List Value) (hx : a.eval x = .slice (some ⟨g, 0, none⟩) 1 1) (hl : news.length = 3) (hnews : ∀ j u, news[j]? = some u → w.cell? ⟨g, j, none⟩ = some u) (ho1 : ∀ u ∈ news, u.oneCell' = true) (hn : n ≤ 1000000) (hbase : base ≤ w.heap.size)
    (h : ∀ v' w', w'.ownsRow base 81 3 v' (n + 1) (xs ++ news) → Below base w w' → K (a.put o.dst v') w') : if Region.wanted o (yielded ops a.tmps) = true then Oper.wp Tryd.prog o a w K Q else E := by
  rw [if_pos (by simp [Region.wanted, hgd])]
  obtain ⟨i0, hi, hz0, hz1, hz2⟩ := info_parts info_held
  refine wp_append_own w s x 51 ho base 81 i0 (.agg #[.slice none 0 0, .slice none 0 0, .int .i64 0]) 3 56 Tryd.underlying51 hi hz0 hz1 hz2 rfl (by decide) v n xs hs h1 ⟨g, 0, none⟩ 1 1 news hx (by omega) (fun j u hu => by rw [Addr.add_lit, Nat.zero_add]; exact hnews j u hu) ho1 (by unfold maxLen; omega) (by omega) hbase ?_
  intro v' w' ho' hg' _
  refine h v' w' ho' ⟨hg'.os, hg'.tape, hg'.output, hg'.size, fun i hi => hg'.block i (by omega) ?_⟩
  rcases h1.2 with ⟨rfl, _⟩ | ⟨g1, c1, cur1, rfl, hb1, _⟩
  · simp [Value.ownBlock]
  · simp [Value.ownBlock]; omega
theorem own_below {w w' : World} {base n size : Nat} {e : TypeId} {v : Value} {xs : List Value} (h : w.ownsRow base e size v n xs) (hb : Below w.heap.size w w') : w'.ownsRow base e size v n xs :=
  World.ownsRow.kept h (row := none) ⟨hb.os, hb.tape, hb.output, hb.size, fun i hi _ => hb.block i hi⟩ (by cases v.ownBlock <;> simp)
theorem own_slice {w : World} {base n size : Nat} {e : TypeId} {v : Value} {xs : List Value} (h : w.ownsRow base e size v (n + 1) xs) : ∃ g c, v = .slice (some ⟨g, 0, none⟩) (n + 1) c := by
  rcases h.2 with ⟨_, h0⟩ | ⟨g, cap, _, h1, _⟩
  · omega
  · exact ⟨g, cap, h1⟩
theorem own_other {w : World} {base n size K o : Nat} {e : TypeId} {v u : Value} {xs : List Value} (h : w.ownsRow base e size v n xs) (hne : v.ownBlock ≠ some K) : (w.setCell ⟨K, o, none⟩ u).ownsRow base e size v n xs :=
  World.ownsRow.kept h (grown_set w K o u) (.inr hne)
theorem own_base {w : World} {base n size g c : Nat} {e : TypeId} {xs : List Value} (h : w.ownsRow base e size (.slice (some ⟨g, 0, none⟩) (n + 1) c) (n + 1) xs) : base ≤ g := by
  rcases h.2 with ⟨_, h0⟩ | ⟨g', cap, _, h1, hb, _⟩
  · omega
  · injection h1 with h1; injection h1 with h1; injection h1 with h1; omega
theorem OwnL.belowK {w w' : World} {b m : Nat} {l : List Value} (h : OwnL w b l) (hb : Below m w w') (hm : b < m) : OwnL w' b l :=
  ⟨Nat.lt_of_lt_of_le h.1 hb.size, fun o => (hb.cell (p := ⟨b, o, none⟩) hm).trans (h.2.1 o), fun o => (hb.frozen (p := ⟨b, o, none⟩) hm).trans (h.2.2 o)⟩
set_option maxRecDepth 100000 in
set_option maxHeartbeats 4000000 in
theorem keepByte_any {K base n k l c : Nat} {A : Option Addr} {w : World} {rest rows : List Value} {V : Value} (hK : OwnL w K (.int .i64 n :: V :: rest)) (hV : w.ownsRow base 81 3 V k rows) (hb : base ≤ w.heap.size) (hKb : K < base) (hn : n ≤ 1000) (hk : k ≤ 1000) :
    Calls Tryd.prog 36 #[.pointer (some ⟨K, 0, none⟩), .slice A l c] w fun e w' => e = .returned (.tuple #[]) ∧ ∃ V', OwnL w' K (.int .i64 (n + 1 : Nat) :: V' :: rest) ∧
      w'.ownsRow base 81 3 V' (k + 1) (rows ++ [.slice A l c, .slice none 0 0, .int .i64 (n + 1 : Nat)]) ∧ FrK base K w w' := by
  have k0 : w.cell? ⟨K, 0, none⟩ = some (.int .i64 n) := hK.2.1 0
  have k1 : w.cell? ⟨K, 1, none⟩ = some V := hK.2.1 1
  have f0 := hK.2.2 0
  have f1 := hK.2.2 1
  have HK := Lib.hid hK
  have HV := Lib.hid hV
  have hKs := hK.1
  have hVK : Hid (V.ownBlock ≠ some K) := Lib.hid (by
    rcases hV.2 with ⟨rfl, _⟩ | ⟨g1, c1, cur1, rfl, hb1, _⟩
    · simp [Value.ownBlock]
    · simp [Value.ownBlock]; omega)
  clear hK hV
  go_enter Tryd.func36, Tryd.ntmps36
  go_wp2_with fail
  have hK1 : Hid (OwnL (w.setCell ⟨K, 0, none⟩ (.int .i64 ((n : Int) + 1))) K (.int .i64 ((n : Int) + 1) :: V :: rest)) := Lib.hid (HK.out.set_ (i := 0) (by simp))
  have hV1 : Hid ((w.setCell ⟨K, 0, none⟩ (.int .i64 ((n : Int) + 1))).ownsRow base 81 3 V k rows) := Lib.hid (World.ownsRow.kept HV.out (grown_set w K 0 _) (.inr hVK.out))
  have hF1 : Hid (FrK base K w (w.setCell ⟨K, 0, none⟩ (.int .i64 ((n : Int) + 1)))) := Lib.hid (FrK.setK _ _ _ _)
  have hb1 : base ≤ (w.setCell ⟨K, 0, none⟩ (.int .i64 ((n : Int) + 1))).heap.size := by simpa [World.setCell] using hb
  generalize w.setCell ⟨K, 0, none⟩ (.int .i64 ((n : Int) + 1)) = w1 at hK1 hV1 hF1 hb1 ⊢
  clear k0 k1 f0 f1 HK HV
  have k0 : w1.cell? ⟨K, 0, none⟩ = some (.int .i64 ((n : Int) + 1)) := hK1.out.2.1 0
  have k1 : w1.cell? ⟨K, 1, none⟩ = some V := hK1.out.2.1 1
  have hKz : K < w1.heap.size := hK1.out.1
  have hBW := Lib.hid (((((Below.refl w1.heap.size w1).alloc (Nat.le_refl _) (.cells #[.slice A l c, .slice none 0 0, .int .i64 ((n : Int) + 1)] 81)).drew).mono hb1))
  have hVW := Lib.hid (own_below hV1.out (((Below.refl w1.heap.size w1).alloc (Nat.le_refl _) (.cells #[.slice A l c, .slice none 0 0, .int .i64 ((n : Int) + 1)] 81)).drew))
  have hNW : Hid (∀ j u, ([Value.slice A l c, .slice none 0 0, .int .i64 ((n : Int) + 1)] : List Value)[j]? = some u → ((w1.alloc (.cells #[.slice A l c, .slice none 0 0, .int .i64 ((n : Int) + 1)] 81)).drew).cell? ⟨w1.heap.size, j, none⟩ = some u) := Lib.hid (fun j u hu => ((OwnL.made' w1 [.slice A l c, .slice none 0 0, .int .i64 ((n : Int) + 1)] _).2.1 j).trans hu)
  go_region_law (refine step_append_held rfl _ _ rfl rfl hVW.out w1.heap.size [.slice A l c, .slice none 0 0, .int .i64 ((n : Int) + 1)] rfl rfl hNW.out (by simp [Value.oneCell']) (by omega) (by simp; omega) ?_; intro v' w3 o3 b3; obtain ⟨g3, cp3, hv3⟩ := own_slice o3; subst hv3; have hK3 := Lib.hid (hK1.out.belowK (hBW.out.trans b3) hKb); have k3 : w3.cell? ⟨K, 1, none⟩ = some V := hK3.out.2.1 1; have f3 := hK3.out.2.2 1; have HO3 := Lib.hid o3; have HB3 := Lib.hid (hBW.out.trans b3); clear o3 b3)
  all_goals
    go_wp2_with fail
    go_end0
    refine ⟨rfl, _, ?_, own_other HO3.out (by simp [Value.ownBlock]; have := own_base HO3.out; omega), (hF1.out.trans (FrK.below HB3.out)).trans (FrK.setK _ _ _ _)⟩
    have := hK3.out.set_ (i := 1) (v := .slice (some ⟨g3, 0, none⟩) (k + 1) cp3) (by simp)
    simpa using this
set_option maxRecDepth 100000 in
theorem Bytes_any {K base n k l c : Nat} {A : Option Addr} {w : World} {rest rows : List Value} {V : Value} (hK : OwnL w K (.int .i64 n :: V :: rest)) (hV : w.ownsRow base 81 3 V k rows) (hb : base ≤ w.heap.size) (hKb : K < base) (hn : n ≤ 1000) (hk : k ≤ 1000) :
    Calls Tryd.prog 19 #[.pointer (some ⟨K, 0, none⟩), .slice A l c] w fun e w' => e = .returned (.tuple #[]) ∧ ∃ V', OwnL w' K (.int .i64 (n + 1 : Nat) :: V' :: rest) ∧
      w'.ownsRow base 81 3 V' (k + 1) (rows ++ [.slice A l c, .slice none 0 0, .int .i64 (n + 1 : Nat)]) ∧ FrK base K w w' := by
  have H := Lib.hid (keepByte_any (A := A) (l := l) (c := c) hK hV hb hKb hn hk)
  clear hK hV
  go_enter Tryd.func19, Tryd.ntmps19
  go_wp2_with (go_at_call 36; refine Calls.mono H.out ?_; rintro e w1 ⟨rfl, hp⟩)
  go_end0
  exact ⟨rfl, hp⟩
end Go.Proofs.YtkaapdnjlmceoabDoor
namespace Go.Proofs.YtkaapdnjlmceoabDoor
open Go.RowKit
theorem OwnL.made (w : World) (l : List Value) (t : TypeId) : OwnL (w.alloc (.cells l.toArray t)) w.heap.size l := ⟨by simp, fun o => by simp [go_sem], fun o => by simp [go_sem]⟩
theorem wpList_store_new {P : Program} {ops : Array Oper} {rest : List Oper} {op : Oper} {a : Act} {w : World} {Q : Exit → Act → World → Prop} (hgd : op.guard = none) (ty : TypeId) (x y : Operand) (ho : op.op = .store ty x y)
    {zs : List Value} (cs : List Value) (hx : a.eval x = .pointer (some ⟨w.heap.size, 0, none⟩)) (hy : a.eval y = .agg cs.toArray) (hl : cs.length = zs.length) (hi : (P.info? ty).map (·.size) = some cs.length) (h1 : ∀ v ∈ cs, v.oneCell' = true)
    (h : ∀ wx, Below w.heap.size w wx → OwnL wx w.heap.size cs → wpList P ops Q rest (a.put op.dst undef) wx) : wpList P ops Q (op :: rest) a (w.alloc (.cells zs.toArray ty)) := by
  have hn := OwnL.made w zs ty
  refine wpList_store_mid hgd ty x y ho w.heap.size 0 cs.toArray hx hy ?_ ?_ (all_oneCell_toArray h1) (h _ (bl_setCells (bl_alloc (Below.refl _ _) _) (Nat.le_refl _)) (hn.sets hl))
  · have := hn.there; simpa [hl] using this
  · simpa using hi
theorem OwnL.belowm {w w' : World} {b m : Nat} {l : List Value} (h : OwnL w b l) (hb : Below m w w') (hm : b < m) : OwnL w' b l :=
  ⟨Nat.lt_of_lt_of_le h.1 hb.size, fun o => (hb.cell (p := ⟨b, o, none⟩) hm).trans (h.2.1 o), fun o => (hb.frozen (p := ⟨b, o, none⟩) hm).trans (h.2.2 o)⟩
theorem OwnL.trk {w w' : World} {b : Nat} {l : List Value} (h : OwnL w b l) (hb : Below w.heap.size w w') : OwnL w' b l := h.belowm hb h.1
theorem OwnL.load {P : Program} {w : World} {b : Nat} {l : List Value} {ty : TypeId} (h : OwnL w b l) (d : TypeDesc) (hu : P.underlying ty = some d) (hd : d.isRow = true) (hi : (P.info? ty).map (·.size) = some l.length) :
    (Instr.loadAt ty (.pointer (some ⟨b, 0, none⟩))).run P w = .ok (.agg l.toArray) w := run_loadAt_mid w b 0 ty l d h.range hu hd hi
set_option maxRecDepth 100000 in
theorem oper_append_bs {w : World} {o : Oper} {a : Act} {K : Act → World → Prop} {Q : Exit → Act → World → Prop} {base n cap : Nat} {v : Value} {A : Option Addr} {xs ys : List UInt8} (s x : Operand)
    (ho : o.op = .call { callee := .builtin .append, args := #[s, x], argTypes := #[31, 31] })
    (hs : a.eval s = v) (hx : a.eval x = .slice A n cap) (h1 : OwnB w base v xs) (h2 : Bs w A n ys) (hnil : A = none → cap = 0) (hlen : xs.length + n ≤ 1099511627776) (hbase : base ≤ w.heap.size)
    (h : ∀ v' w', OwnB w' base v' (xs ++ ys) → Below base w w' → K (a.put o.dst v') w') : Oper.wp Tryd.prog o a w K Q := by
  obtain ⟨i0, hi, hz⟩ : ∃ i0, Tryd.prog.info? 5 = some i0 ∧ (i0.zero, i0.size, i0.bytes) = (some (.int .u8 0), 1, 1) := by
    have hi := info_u8
    cases he : Tryd.prog.info? 5 with
    | none => rw [he] at hi; cases hi
    | some i0 => rw [he] at hi; exact ⟨i0, rfl, by simpa using hi⟩
  simp only [Prod.mk.injEq] at hz
  have h1' := h1
  unfold OwnB at h1'
  cases A with
  | none =>
    have hn : n = 0 := by
      rcases Nat.eq_zero_or_pos n with h0 | hp
      · exact h0
      · obtain ⟨b, off, e, _⟩ := h2.2.2 hp; cases e
    subst hn
    rw [hnil rfl] at hx
    have hy : ys = [] := List.eq_nil_of_length_eq_zero h2.1
    have hrun := run_append_owned_none (P := Tryd.prog) (w := w) base 31 o.type 5 i0 1 Tryd.underlying31 hi v _ _ h1'
    have := h v w (by rw [hy, List.append_nil]; exact h1) (Below.refl _ _)
    unfold Oper.wp
    simp [execOp, ho, resolve, invoke, builtin, hs, hx, hrun, Result.andThen]
    exact this
  | some ad =>
    have hcell : ∀ j u, (u8s ys)[j]? = some u → w.cell? (ad.add j) = some u := fun j u hu => by
      have hj : j < ys.length := by have := (List.getElem?_eq_some_iff.1 hu).1; simpa [u8s] using this
      obtain ⟨b, off, e, hl, hc⟩ := h2.2.2 (by rw [← h2.1]; omega)
      injection e with e; subst e
      rw [Addr.add_lit, hc j (by rw [← h2.1]; exact hj), ← hu]
      simp [u8s, List.getD, List.getElem?_eq_getElem hj]
    refine wp_append_own w s x 31 ho base 5 i0 (.int .u8 0) 1 1 Tryd.underlying31 hi hz.1 hz.2.1 hz.2.2 rfl (by decide) v _ _ hs h1' ad n cap (u8s ys) hx (by simp [u8s, h2.1]) hcell (by intro u hu; obtain ⟨y, _, rfl⟩ := List.mem_map.1 hu; rfl) (by unfold maxLen; omega) (by omega) hbase ?_
    intro v' w' ho' hg' _
    refine h v' w' ?_ ⟨hg'.os, hg'.tape, hg'.output, hg'.size, fun i hi => hg'.block i (by omega) ?_⟩
    · rw [← u8s_append] at ho'
      unfold OwnB
      rw [List.length_append, h2.1]
      exact ho'
    · rcases h1.2 with ⟨rfl, _⟩ | ⟨g1, c1, cur1, rfl, hb1, _⟩
      · simp [Value.ownBlock]
      · simp [Value.ownBlock]; omega
theorem wp_append_bs {w : World} {ops : Array Oper} {rest : List Oper} {o : Oper} {a : Act} {Q : Exit → Act → World → Prop} {base n cap : Nat} {v : Value} {A : Option Addr} {xs ys : List UInt8} (hgd : o.guard = none) (s x : Operand)
    (ho : o.op = .call { callee := .builtin .append, args := #[s, x], argTypes := #[31, 31] })
    (hs : a.eval s = v) (hx : a.eval x = .slice A n cap) (h1 : OwnB w base v xs) (h2 : Bs w A n ys) (hnil : A = none → cap = 0) (hlen : xs.length + n ≤ 1099511627776) (hbase : base ≤ w.heap.size)
    (h : ∀ v' w', OwnB w' base v' (xs ++ ys) → Below base w w' → wpList Tryd.prog ops Q rest (a.put o.dst v') w') : wpList Tryd.prog ops Q (o :: rest) a w :=
  wpList_plain hgd fun _ hK => oper_append_bs s x ho hs hx h1 h2 hnil hlen hbase fun v' w' a b => hK _ _ (h v' w' a b)
theorem take_ext {xs ys : List UInt8} {k : Nat} (h1 : k < xs.length) (h2 : k < ys.length) (h : xs.take k = ys.take k) : xs.take (k + 1) = ys.take (k + 1) ↔ xs.getD k 0 = ys.getD k 0 := by
  rw [List.take_succ_eq_append_getElem h1, List.take_succ_eq_append_getElem h2, h, List.append_cancel_left_eq]
  simp [List.getD, List.getElem?_eq_getElem h1, List.getElem?_eq_getElem h2]
section
variable {A B : Option Addr} {n m cap cap2 : Nat} {xs ys : List UInt8} {w : World}
set_option maxRecDepth 100000 in
set_option maxHeartbeats 1000000 in
theorem Same_len (hA : Bs w A n xs) (hB : Bs w B m ys) (hne : n ≠ m) :
    Calls Tryd.prog 20 #[.slice A n cap, .slice B m cap2] w fun e w' => e = .returned (.bool false) ∧ w = w' := by
  have h1 := hA.2.1; have h2 := hB.2.1
  have hd : ((n : Int) == m) = false := by simp; omega
  clear hA hB hne
  go_enter Tryd.func20, Tryd.ntmps20
  go_wp2_with fail
  go_ret
  exact ⟨rfl, rfl⟩
set_option maxRecDepth 100000 in
set_option maxHeartbeats 1000000 in
theorem Same_go (hA : Bs w A n xs) (hB : Bs w B n ys) :
    Calls Tryd.prog 20 #[.slice A n cap, .slice B n cap2] w fun e w' => e = .returned (.bool (decide (xs = ys))) ∧ Below w.heap.size w w' := by
  have h1 := hA.2.1
  have HA := Lib.hid hA; have HB := Lib.hid hB
  clear hA hB
  go_enter Tryd.func20, Tryd.ntmps20
  go_wp2_with fail
  go_loopw [5] (fun i wr => ∃ k : Nat, k ≤ n ∧ i = .int .i64 k ∧ xs.take k = ys.take k ∧ ∃ m, wr = w.drewN m) (fun i _ => n - (intOf i).toNat)
  case atStart => exact ⟨0, by omega, rfl, rfl, 0, rfl⟩
  case round =>
    obtain ⟨k, hk, rfl, htk, m, rfl⟩ := hrel
    have HT := Lib.hid htk; clear htk
    by_cases hlt : k < n
    · obtain ⟨b, off, rfl, hl, hcell⟩ := HA.out.2.2 (by omega)
      obtain ⟨b2, off2, rfl, hl2, hcell2⟩ := HB.out.2.2 (by omega)
      have hc1 := hcell k hlt
      have hc2 := hcell2 k hlt
      have HX := Lib.hid (take_ext (by rw [HA.out.1]; exact hlt) (by rw [HB.out.1]; exact hlt) HT.out)
      clear hcell hcell2 hl hl2
      by_cases he : xs.getD k 0 = ys.getD k 0
      · have HE := Lib.hid (HX.out.2 he)
        rw [he] at hc1
        clear he HX
        generalize (ys.getD k 0).toNat = c at hc1 hc2
        go_wp2_with fail
        go_quiet (fail)
        go_wp2
        go_roundw
        case rel => exact ⟨k + 1, by omega, by go_num, HE.out, _, rfl⟩
        case measure => simp [intOf]; omega
      · have hd : (((xs.getD k 0).toNat : Int) == ((ys.getD k 0).toNat : Int)) = false := by
          simp only [beq_eq_false_iff_ne, ne_eq]
          intro hh; exact he (UInt8.toNat.inj (by omega))
        have HF : Hid (xs ≠ ys) := Lib.hid (fun e => he (by rw [e]))
        clear he HX
        generalize (xs.getD k 0).toNat = c1 at hc1 hd
        generalize (ys.getD k 0).toNat = c2 at hc2 hd
        go_wp2_with fail
        go_quiet (fail)
        go_wp2
        go_ret
        exact ⟨by rw [decide_eq_false HF.out]; rfl, by (with_reducible (repeat' (first | exact Below.refl _ _ | assumption | apply bl_alloc | apply bl_drewN | apply bl_drew | refine bl_set ?_ ?_ _))) <;> (first | done | (simp; done) | (simp; omega) | omega)⟩
    · obtain rfl : k = n := by omega
      have HF : Hid (xs = ys) := Lib.hid (by have := HT.out; rwa [List.take_of_length_le (by rw [HA.out.1]; exact Nat.le_refl _), List.take_of_length_le (by rw [HB.out.1]; exact Nat.le_refl _)] at this)
      go_wp2_with fail
      go_ret
      exact ⟨by rw [decide_eq_true HF.out]; rfl, by (with_reducible (repeat' (first | exact Below.refl _ _ | assumption | apply bl_alloc | apply bl_drewN | apply bl_drew | refine bl_set ?_ ?_ _))) <;> (first | done | (simp; done) | (simp; omega) | omega)⟩
theorem Same_any (hA : Bs w A n xs) (hB : Bs w B m ys) :
    Calls Tryd.prog 20 #[.slice A n cap, .slice B m cap2] w fun e w' => e = .returned (.bool (decide (xs = ys))) ∧ Below w.heap.size w w' := by
  by_cases h : n = m
  · subst h; exact Same_go hA hB
  · refine (Same_len hA hB h).mono ?_
    rintro e w' ⟨rfl, rfl⟩
    exact ⟨by rw [decide_eq_false]; intro hh; exact h (by rw [← hA.1, ← hB.1, hh]), Below.refl _ _⟩
end
end Go.Proofs.YtkaapdnjlmceoabDoor
namespace Go.Proofs.YtkaapdnjlmceoabDoor
open Go.RowKit
theorem book2 {m K base : Nat} {w : World} {V : Value} {A1 A2 : Option Addr} {c1 c2 : Nat} {bs : List UInt8} {rest : List Value}
    (hK : OwnL w K (.int .i64 2 :: V :: rest)) (hV : w.ownsRow base 81 3 V 2 [.slice A1 bs.length c1, .slice none 0 0, .int .i64 1, .slice A2 bs.length c2, .slice none 0 0, .int .i64 2])
    (hx : OwnB w 0 (.slice A1 bs.length c1) bs) (hy : OwnB w 0 (.slice A2 bs.length c2) bs) (hxb : ∀ p, A1 = some p → m ≤ p.block ∧ p.block < K) (hyb : ∀ p, A2 = some p → m ≤ p.block ∧ p.block < K) (hne : ∀ p q, A1 = some p → A2 = some q → p.block ≠ q.block) (hKb : K < base) (hm : m ≤ K) :
    ∃ G cap, V = .slice (some ⟨G, 0, none⟩) 2 cap ∧ 2 ≤ cap ∧ BkSt m w K G (.int .i64 2 :: .slice (some ⟨G, 0, none⟩) 2 cap :: rest) [⟨A1, bs.length, c1, none, 0, 0, 1⟩, ⟨A2, bs.length, c2, none, 0, 0, 2⟩] (fun _ => bs) := by
  have hV' := hV
  rcases hV.2 with ⟨_, h0⟩ | ⟨G, cap, cur, rfl, hb, hg, hc, _, hsz, htake⟩
  · omega
  · have hat : ∀ j, j < 6 → w.cell? ⟨G, j, none⟩ = ([.slice A1 bs.length c1, .slice none 0 0, .int .i64 1, .slice A2 bs.length c2, .slice none 0 0, .int .i64 2] : List Value)[j]? := fun j hj => World.ownsRow.cellAt hV' j (by omega)
    refine ⟨G, cap, rfl, hc, hK, ⟨(Array.getElem?_eq_some_iff.1 hg).1, fun o => by simp [World.frozen?, hg], ?_⟩, ?_, ?_, ⟨hm, by omega, by omega⟩, ?_⟩
    · intro i hi
      match i, hi with
      | 0, _ => exact ⟨hat 0 (by omega), hat 1 (by omega), hat 2 (by omega)⟩
      | 1, _ => exact ⟨hat 3 (by omega), hat 4 (by omega), hat 5 (by omega)⟩
    · intro i hi
      match i, hi with
      | 0, _ => exact hx
      | 1, _ => exact hy
    · intro i hi p hp
      match i, hi with
      | 0, _ =>
        have := hxb p hp
        refine ⟨by omega, by omega, this.1, fun j hj hji q hq => ?_⟩
        match j, hj with
        | 0, _ => exact absurd rfl hji
        | 1, _ => exact fun h => hne p q hp hq h.symm
      | 1, _ =>
        have := hyb p hp
        refine ⟨by omega, by omega, this.1, fun j hj hji q hq => ?_⟩
        match j, hj with
        | 0, _ => exact hne q p hq hp
        | 1, _ => exact absurd rfl hji
    · intro i hi
      match i, hi with
      | 0, _ => show (1 : Nat) ≤ 1000000; omega
      | 1, _ => show (2 : Nat) ≤ 1000000; omega
theorem OwnB.belowK {w w' : World} {base m : Nat} {v : Value} {bs : List UInt8} (h : OwnB w base v bs) (hb : Below m w w') (hm : ∀ g, v.ownBlock = some g → g < m) : OwnB w' base v bs := by
  unfold OwnB at h ⊢
  rcases h.2 with hn | ⟨g, cap, cur, hv, hb1, hh, hr⟩
  · exact ⟨h.1, .inl hn⟩
  · exact ⟨h.1, .inr ⟨g, cap, cur, hv, hb1, (hb.block _ (hm g (by rw [hv]; rfl))).trans hh, hr⟩⟩
theorem OwnB.bs {w : World} {base : Nat} {A : Option Addr} {c : Nat} {bs : List UInt8} (h : OwnB w base (.slice A bs.length c) bs) : Bs w A bs.length bs := by
  obtain ⟨A', c', e, _, _, hB⟩ := h.reads
  injection e with e1 _ _; subst e1; exact hB
theorem Same_eq {w : World} {A B : Option Addr} {n m cap cap2 : Nat} {xs : List UInt8} (hA : Bs w A n xs) (hB : Bs w B m xs) :
    Calls Tryd.prog 20 #[.slice A n cap, .slice B m cap2] w fun e w' => e = .returned (.bool true) ∧ Below w.heap.size w w' := by
  refine (Same_any hA hB).mono ?_
  rintro e w' ⟨rfl, hb⟩
  exact ⟨by simp, hb⟩
theorem held2 {A1 A2 : Option Addr} {c1 c2 : Nat} {bs : List UInt8} (hl : bs.length ≤ 1099511627000) (h1 : bs.length ≤ c1) (h2 : bs.length ≤ c2) :
    ∀ i (hi : i < ([⟨A1, bs.length, c1, none, 0, 0, 1⟩, ⟨A2, bs.length, c2, none, 0, 0, 2⟩] : List HB).length), ([⟨A1, bs.length, c1, none, 0, 0, 1⟩, ⟨A2, bs.length, c2, none, 0, 0, 2⟩] : List HB)[i].l = ((fun _ => bs) i).length ∧ ([⟨A1, bs.length, c1, none, 0, 0, 1⟩, ⟨A2, bs.length, c2, none, 0, 0, 2⟩] : List HB)[i].l ≤ ([⟨A1, bs.length, c1, none, 0, 0, 1⟩, ⟨A2, bs.length, c2, none, 0, 0, 2⟩] : List HB)[i].c ∧ ([⟨A1, bs.length, c1, none, 0, 0, 1⟩, ⟨A2, bs.length, c2, none, 0, 0, 2⟩] : List HB)[i].l ≤ 1099511627000 := by
  intro i hi
  match i, hi with
  | 0, _ => exact ⟨rfl, h1, hl⟩
  | 1, _ => exact ⟨rfl, h2, hl⟩
theorem info_book : (Tryd.prog.info? 59).map (·.size) = some 8 := by kernel_rfl
def emptyBook : List Value := [.int .i64 0, .slice none 0 0, .slice none 0 0, .slice none 0 0, .slice none 0 0, .slice none 0 0, .slice none 0 0, .slice none 0 0]
set_option maxRecDepth 100000 in
set_option maxHeartbeats 4000000 in
theorem two_any {m : Nat} {w : World} {v1 v2 v3 : Value} {bs : List UInt8} (hx : OwnB w m v1 bs) (hy : OwnB w m v2 bs) (hz : OwnB w m v3 bs) (hl : bs.length ≤ 1099511627000) (hm : m ≤ w.heap.size)
    (hne : ∀ p q, v1.ownBlock = some p → v2.ownBlock = some q → p ≠ q) :
    Calls Tryd.prog 6 #[v1, v2, v3] w fun e w' => e = .returned (.bool true) ∧ Below m w w' := by
  obtain ⟨A1, c1, rfl, hc1, hm1, _⟩ := hx.reads
  obtain ⟨A2, c2, rfl, hc2, hm2, _⟩ := hy.reads
  obtain ⟨A3, c3, rfl, hc3, hm3, _⟩ := hz.reads
  have hx1 := World.ownsRow.lt hx
  have hy1 := World.ownsRow.lt hy
  have hz1 := World.ownsRow.lt hz
  have HX := Lib.hid hx
  have HY := Lib.hid hy
  have HZ := Lib.hid hz
  have HB1 := Lib.hid hx1
  have HB2 := Lib.hid hy1
  have HB3 := Lib.hid hz1
  have HN := Lib.hid hne
  have HM := Lib.hid hm
  have HL := Lib.hid hl
  clear hx hy hz hx1 hy1 hz1 hne hl
  go_enter Tryd.func6, Tryd.ntmps6
  go_wp2_with (first
    | (refine wpList_store_new rfl 59 _ _ rfl emptyBook rfl rfl rfl (by kernel_rfl) (by simp [emptyBook, Value.oneCell']) ?_; intro wa ba oA)
    | (go_at_call 19; first
        | (refine Calls.mono (Bytes_any (base := w.heap.size + 1) (n := 0) (k := 0) oA (World.ownsRow_nil _ _ _ _) oA.1 (Nat.lt_succ_self _) (by omega) (by omega)) ?_; rintro e w1 ⟨rfl, V1, oK1, oV1, fr1⟩; clear oA)
        | (refine Calls.mono (Bytes_any (base := w.heap.size + 1) (n := 1) (k := 1) oK1 oV1 (Nat.le_trans (Nat.succ_le_of_lt oK1.1) (Nat.le_refl _)) (Nat.lt_succ_self _) (by omega) (by omega)) ?_; rintro e w2 ⟨rfl, V2, oK2, oV2, fr2⟩;
            (have hB2 : Below w.heap.size w w2 := ((ba.trans (fr1.to (Nat.le_refl _) (Nat.le_succ _))).trans (fr2.to (Nat.le_refl _) (Nat.le_succ _))));
            (have HX2 := HX.out.below hB2); (have HY2 := HY.out.below hB2); (have HZ2 := HZ.out.below hB2);
            obtain ⟨G, cap, hV2, hcap, hBk⟩ := book2 (m := m) oK2 oV2 (HX2.mono (Nat.zero_le _)) (HY2.mono (Nat.zero_le _)) (fun p hp => HB1.out p.block (by subst hp; rfl)) (fun p hp => HB2.out p.block (by subst hp; rfl)) (fun p q hp hq => HN.out p.block q.block (by subst hp; rfl) (by subst hq; rfl)) (Nat.lt_succ_self _) HM.out;
            (have bX := Lib.hid HX2.bs); (have bY := Lib.hid HY2.bs); (have bZ := Lib.hid HZ2.bs); (have HBk := Lib.hid hBk); (have HFin := Lib.hid (hB2.mono HM.out)); (have HBs := Lib.hid hB2.size);
            clear oK1 oV1 fr1 oK2 oV2 fr2 hBk HX2 HY2 HZ2 hV2 ba hB2))
    | (go_at_call 20; first
        | (refine Calls.mono (Same_eq bX.out bZ.out) ?_; rintro e w3 ⟨rfl, b3⟩; (have HBk := Lib.hid (HBk.out.below b3)); (have bY := Lib.hid (Bs.below bY.out b3)); (have bZ := Lib.hid (Bs.below bZ.out b3)); (have HFin := Lib.hid (HFin.out.trans (b3.mono (Nat.le_trans HM.out HBs.out)))); (have HB3s := Lib.hid b3.size); clear bX b3)
        | (refine Calls.mono (Same_eq bY.out bZ.out) ?_; rintro e w4 ⟨rfl, b4⟩; (have HBk := Lib.hid (HBk.out.below b4)); (have HFin := Lib.hid (HFin.out.trans (b4.mono (Nat.le_trans HM.out (Nat.le_trans HBs.out HB3s.out))))); (have HMw := Nat.le_trans HM.out (Nat.le_trans HBs.out (Nat.le_trans HB3s.out b4.size))); clear bY bZ b4))
    | (go_at_call 21; refine Calls.mono (Apart_any (m := m) (hs := [⟨A1, bs.length, c1, none, 0, 0, 1⟩, ⟨A2, bs.length, c2, none, 0, 0, 2⟩]) hcap (Nat.le_of_ble_eq_true rfl) (held2 HL.out hc1 hc2) HBk.out HMw) ?_; rintro e w5 ⟨rfl, b5⟩))
  go_ret
  exact ⟨rfl, HFin.out.trans b5⟩
end Go.Proofs.YtkaapdnjlmceoabDoor
namespace Go.Proofs.YtkaapdnjlmceoabDoor
open Go.RowKit
def okB (r : Except Int (List UInt8)) : List UInt8 := match r with | .ok bs => bs | .error _ => []
def erB (r : Except Int (List UInt8)) : Int := match r with | .ok _ => 0 | .error e => e
theorem PutPost.flat {r : Except Int (List UInt8)} {w w' : World} {e : Ending} (h : PutPost r w e w') : ∃ v, e = .returned (.tuple #[v, .int .i64 (erB r)]) ∧ OwnB w' w.heap.size v (okB r) ∧ Below w.heap.size w w' := by
  obtain ⟨hb, ⟨bs, v, rfl, rfl, ho⟩ | ⟨er, rfl, rfl⟩⟩ := h
  · exact ⟨v, rfl, ho, hb⟩
  · exact ⟨_, rfl, OwnB.nil _ _, hb⟩
theorem OwnB.apart {w w' : World} {a b p q : Nat} {v u : Value} {bs cs : List UInt8} (h : OwnB w a v bs) (k : OwnB w' b u cs) (hb : w.heap.size ≤ b) (hp : v.ownBlock = some p) (hq : u.ownBlock = some q) : p ≠ q := by
  have h1 := World.ownsRow.lt h p hp
  have h2 := World.ownsRow.lt k q hq
  omega
theorem wpList_load_own {P : Program} {ops : Array Oper} {rest : List Oper} {op : Oper} {a : Act} {w : World} {Q : Exit → Act → World → Prop} {b : Nat} {l : List Value} (hw : Region.wanted op (yielded ops a.tmps) = true) (ty : TypeId) (x : Operand) (ho : op.op = .load ty x)
    (hx : a.eval x = .pointer (some ⟨b, 0, none⟩)) (h : OwnL w b l) (d : TypeDesc) (hu : P.underlying ty = some d) (hd : d.isRow = true) (hi : (P.info? ty).map (·.size) = some l.length)
    (hn : wpList P ops Q rest (a.put op.dst (.agg l.toArray)) w) : wpList P ops Q (op :: rest) a w :=
  wpList_step fun K hK => by
    rw [if_pos hw]
    exact wp_load_mid ty x ho b 0 hx l d h.range hu hd hi (hK _ _ hn)
end Go.Proofs.YtkaapdnjlmceoabDoor

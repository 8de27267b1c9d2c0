/- What the laws of chapter 11 share: args.Put of records with few fields. -/
import Derived.Test.YtgmhapjidbdhnaaGreatArAlive
import Derived.Test.YtgmhapjidbdhnaaGreatArPutP
import Derived.Test.YtgmhapjidbdhnaaGreatBeyond
import Derived.Test.YtgmhapjidbdhnaaGreatJH
set_option linter.unusedVariables false
set_option linter.unusedSimpArgs false
namespace Go.Proofs.YtgmhapjidbdhnaaGreat
open Go.RowKit
section
variable {w : World} {p : Nat} {v v2 v3 : Value} {h h2 name name2 data target : List UInt8}
theorem Put_alone (hp : p ≤ 21) (hq : partsOf p = [ptH]) (hr : Rd w v h) : Calls Tryz.prog 12 #[.agg (arC v nilS nilS {Ar.zero p with h := h}).toArray] w (PutPost (if h.length ≤ 64 then .ok (opqB h) else .error 1) w) := by
  rw [← put_alone hp hq]
  exact Put_walk (a := {Ar.zero p with h := h}) ⟨show p < 4294967296 by omega, z0, z1, z3, z2, z3, z3, z3, z3, z3, rfl, z2⟩ hr (rd_nil w) (rd_nil w)
theorem Put_named (hp : p ≤ 21) (hq : partsOf p = [ptH, ptName]) (hr : Rd w v h) : Calls Tryz.prog 12 #[.agg (arC v nilS nilS {Ar.zero p with h := h, name := name}).toArray] w (PutPost (if h.length ≤ 64 ∧ name.length ≤ 1024 then .ok (opqB h ++ opqB name) else .error 1) w) := by
  rw [← put_named hp hq]
  exact Put_walk (a := {Ar.zero p with h := h, name := name}) ⟨show p < 4294967296 by omega, z0, z1, z3, z2, z3, z3, z3, z3, z3, rfl, z2⟩ hr (rd_nil w) (rd_nil w)
theorem Put_read {o c : Nat} (hp : p ≤ 21) (hq : partsOf p = [ptH, ptOffset, ptCount]) (g : h.length ≤ 64) (ho : o < 18446744073709551616) (hc : c < 4294967296) (hr : Rd w v h) : Calls Tryz.prog 12 #[.agg (arC v nilS nilS {Ar.zero p with h := h, offset := o, count := c}).toArray] w fun e w' => ∃ v', e = .returned (.tuple #[v', .int .i64 0]) ∧ OwnB w' w.heap.size v' (opqB h ++ (put8 o ++ put4 c)) ∧ Below w.heap.size w w' :=
  Calls.mono (Put_walk (a := {Ar.zero p with h := h, offset := o, count := c}) ⟨show p < 4294967296 by omega, z0, z1, z3, ho, hc, z3, z3, z3, z3, rfl, z2⟩ hr (rd_nil w) (rd_nil w)) fun e w' k => k.okay (put_read hp hq g ho hc)
theorem Put_write {o c s : Nat} (g : h.length ≤ 64) (ho : o < 18446744073709551616) (hc : c < 4294967296) (hs : s < 4294967296) (hr : Rd w v h) (hd : Rd w v3 data) : Calls Tryz.prog 12 #[.agg (arC v nilS v3 {Ar.zero 7 with h := h, offset := o, count := c, stable := s, data := data}).toArray] w (PutPost (if s ≤ 2 ∧ data.length ≤ 32768 then .ok (opqB h ++ (put8 o ++ (put4 c ++ (put4 s ++ opqB data)))) else .error 1) w) := by
  rw [← put_write g ho hc]
  exact Put_walk (a := {Ar.zero 7 with h := h, offset := o, count := c, stable := s, data := data}) ⟨show (7 : Nat) < 4294967296 by decide, z0, z1, z3, ho, hc, z3, hs, z3, z3, rfl, z2⟩ hr (rd_nil w) hd
theorem Put_rename (g : h.length ≤ 64) (k : name.length ≤ 1024) (g2 : h2.length ≤ 64) (k2 : name2.length ≤ 1024) (hr : Rd w v h) (hr2 : Rd w v2 h2) : Calls Tryz.prog 12 #[.agg (arC v v2 nilS {Ar.zero 14 with h := h, name := name, h2 := h2, name2 := name2}).toArray] w fun e w' => ∃ v', e = .returned (.tuple #[v', .int .i64 0]) ∧ OwnB w' w.heap.size v' (opqB h ++ (opqB name ++ (opqB h2 ++ opqB name2))) ∧ Below w.heap.size w w' :=
  Calls.mono (Put_walk (a := {Ar.zero 14 with h := h, name := name, h2 := h2, name2 := name2}) ⟨show (14 : Nat) < 4294967296 by decide, z0, z1, z3, z2, z3, z3, z3, z3, z3, rfl, z2⟩ hr hr2 (rd_nil w)) fun e w' kk => kk.okay (put_rename g k g2 k2)
theorem Put_link (g : h.length ≤ 64) (g2 : h2.length ≤ 64) (k2 : name2.length ≤ 1024) (hr : Rd w v h) (hr2 : Rd w v2 h2) : Calls Tryz.prog 12 #[.agg (arC v v2 nilS {Ar.zero 15 with h := h, h2 := h2, name2 := name2}).toArray] w fun e w' => ∃ v', e = .returned (.tuple #[v', .int .i64 0]) ∧ OwnB w' w.heap.size v' (opqB h ++ (opqB h2 ++ opqB name2)) ∧ Below w.heap.size w w' :=
  Calls.mono (Put_walk (a := {Ar.zero 15 with h := h, h2 := h2, name2 := name2}) ⟨show (15 : Nat) < 4294967296 by decide, z0, z1, z3, z2, z3, z3, z3, z3, z3, rfl, z2⟩ hr hr2 (rd_nil w)) fun e w' kk => kk.okay (put_link g g2 k2)
theorem Put_readdir {o c : Nat} (g : h.length ≤ 64) (ho : o < 18446744073709551616) (hc : c < 4294967296) (hr : Rd w v h) : Calls Tryz.prog 12 #[.agg (arC v nilS nilS {Ar.zero 16 with h := h, cookie := o, count := c}).toArray] w fun e w' => ∃ v', e = .returned (.tuple #[v', .int .i64 0]) ∧ OwnB w' w.heap.size v' (opqB h ++ (put8 o ++ (List.replicate 8 0 ++ put4 c))) ∧ Below w.heap.size w w' :=
  Calls.mono (Put_walk (a := {Ar.zero 16 with h := h, cookie := o, count := c}) ⟨show (16 : Nat) < 4294967296 by decide, z0, z1, z3, z2, hc, z3, z3, z3, z3, rfl, ho⟩ hr (rd_nil w) (rd_nil w)) fun e w' kk => kk.okay (put_readdir g ho hc)
theorem Put_readdirplus {o c m : Nat} (g : h.length ≤ 64) (ho : o < 18446744073709551616) (hc : c < 4294967296) (hm : m < 4294967296) (hr : Rd w v h) : Calls Tryz.prog 12 #[.agg (arC v nilS nilS {Ar.zero 17 with h := h, cookie := o, count := c, max := m}).toArray] w fun e w' => ∃ v', e = .returned (.tuple #[v', .int .i64 0]) ∧ OwnB w' w.heap.size v' (opqB h ++ (put8 o ++ (List.replicate 8 0 ++ (put4 c ++ put4 m)))) ∧ Below w.heap.size w w' :=
  Calls.mono (Put_walk (a := {Ar.zero 17 with h := h, cookie := o, count := c, max := m}) ⟨show (17 : Nat) < 4294967296 by decide, z0, z1, z3, z2, hc, hm, z3, z3, z3, rfl, ho⟩ hr (rd_nil w) (rd_nil w)) fun e w' kk => kk.okay (put_readdirplus g ho hc hm)
end
end Go.Proofs.YtgmhapjidbdhnaaGreat

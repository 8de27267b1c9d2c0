/-
  No cell of these rows narrows 'for every input' (looked for: loops, veiled, ifaces, maps, wideKeys, modest, calm, conditions, laid).
  DERIVED. THE GIVEN ROWS OF THIS SEAT. 7 by the template 'for every input the law returns true; each argument reads behind the call as it read before'; 0 by the template 'total and deterministic' (their statements: YtgmhapjidbdhnaaGreatTotals.lean).
  GIVEN WITH THE SEED: the statements are not yours to turn. If you find one false, say at which input.
  Laid BY PROGRAM, IN A SANDBOX (cutbox-rows.mjs): the forced cells as the released guide's own fill.sh prints them over the translation f28ca907a0f98d68… (all of the seat's roots in one cut). By AI agents, Wed Nov 11 2026. No macro, syntax, notation, axiom, sorry.
-/
import Derived.Test.YtgmhapjidbdhnaaGreatChecked
import GoSem.Claim
import GoSem.ClaimJoined
import GoSem.ClaimMapViews
import Derived.JoinedTies
import Derived.KernelRfl
namespace Go.Proofs.YtgmhapjidbdhnaaGreat
/- THE CELL 'sum', in the pinned program and in every row, IS THE sha256 OF THE DUMP (.gsa) THAT YtgmhapjidbdhnaaGreatProg.lean LOADS. Nothing in Lean hashes anything: it is a label: what it is worth is what the hold of that sum in a sandbox is worth. -/
noncomputable def Tryz.pinned : Pinned := { name := "ytgmhapjidbdhnaagreat", sum := "f28ca907a0f98d6858a16e94e42482555acdff746a7b6536fa7eba60a9849747", checked := Tryz.checked }
namespace Rows
def none {H : Type} : Left H := { results := [], args := [] }

/-- 'wharfingerlaw11.ArgsBack': WHATEVER THE INPUT: true; the input reads as it did. -/
def argsBackSpec : ChangeSpec := { name := "argsBack", fn := fun _ => fun
  | [d1, d2] => { results := [.lit (.bool true)], args := [d1, d2] }
  | _ => none }
def argsBackRow : OpenClaim := { program := "ytgmhapjidbdhnaagreat", sum := "f28ca907a0f98d6858a16e94e42482555acdff746a7b6536fa7eba60a9849747", func := "wharfinger/wharfingerlaw11.ArgsBack", spec := "argsBack", unfollowed := true, recurses := true, apart := false }
def ArgsBackSaid : Prop := argsBackRow.holds Tryz.pinned (OpenSpec.ofChange argsBackSpec)

/-- ITS FALSE NEIGHBOUR: 'it returns false'. Refute it at one input. -/
def argsBackWrong : ChangeSpec := { name := "argsBack", fn := fun _ => fun
  | [d1, d2] => { results := [.lit (.bool false)], args := [d1, d2] }
  | _ => none }
def ArgsBackWrongFalsely : Prop := argsBackRow.holds Tryz.pinned (OpenSpec.ofChange argsBackWrong)

/-- 'wharfingerlaw11.ArgsAgain': WHATEVER THE INPUT: true; the input reads as it did. -/
def argsAgainSpec : ChangeSpec := { name := "argsAgain", fn := fun _ => fun
  | [d1, d2] => { results := [.lit (.bool true)], args := [d1, d2] }
  | _ => none }
def argsAgainRow : OpenClaim := { program := "ytgmhapjidbdhnaagreat", sum := "f28ca907a0f98d6858a16e94e42482555acdff746a7b6536fa7eba60a9849747", func := "wharfinger/wharfingerlaw11.ArgsAgain", spec := "argsAgain", unfollowed := true, recurses := true, apart := false }
def ArgsAgainSaid : Prop := argsAgainRow.holds Tryz.pinned (OpenSpec.ofChange argsAgainSpec)

/-- ITS FALSE NEIGHBOUR: 'it returns false'. Refute it at one input. -/
def argsAgainWrong : ChangeSpec := { name := "argsAgain", fn := fun _ => fun
  | [d1, d2] => { results := [.lit (.bool false)], args := [d1, d2] }
  | _ => none }
def ArgsAgainWrongFalsely : Prop := argsAgainRow.holds Tryz.pinned (OpenSpec.ofChange argsAgainWrong)

/-- 'wharfingerlaw11.ArgsFile': WHATEVER THE INPUT: true; the input reads as it did. -/
def argsFileSpec : ChangeSpec := { name := "argsFile", fn := fun _ => fun
  | [d1, d2] => { results := [.lit (.bool true)], args := [d1, d2] }
  | _ => none }
def argsFileRow : OpenClaim := { program := "ytgmhapjidbdhnaagreat", sum := "f28ca907a0f98d6858a16e94e42482555acdff746a7b6536fa7eba60a9849747", func := "wharfinger/wharfingerlaw11.ArgsFile", spec := "argsFile", unfollowed := true, recurses := true, apart := false }
def ArgsFileSaid : Prop := argsFileRow.holds Tryz.pinned (OpenSpec.ofChange argsFileSpec)

/-- ITS FALSE NEIGHBOUR: 'it returns false'. Refute it at one input. -/
def argsFileWrong : ChangeSpec := { name := "argsFile", fn := fun _ => fun
  | [d1, d2] => { results := [.lit (.bool false)], args := [d1, d2] }
  | _ => none }
def ArgsFileWrongFalsely : Prop := argsFileRow.holds Tryz.pinned (OpenSpec.ofChange argsFileWrong)

/-- 'wharfingerlaw11.ArgsOffset': WHATEVER THE INPUT: true; the input reads as it did. -/
def argsOffsetSpec : ChangeSpec := { name := "argsOffset", fn := fun _ => fun
  | [d1, d2, d3] => { results := [.lit (.bool true)], args := [d1, d2, d3] }
  | _ => none }
def argsOffsetRow : OpenClaim := { program := "ytgmhapjidbdhnaagreat", sum := "f28ca907a0f98d6858a16e94e42482555acdff746a7b6536fa7eba60a9849747", func := "wharfinger/wharfingerlaw11.ArgsOffset", spec := "argsOffset", unfollowed := true, recurses := true, apart := false }
def ArgsOffsetSaid : Prop := argsOffsetRow.holds Tryz.pinned (OpenSpec.ofChange argsOffsetSpec)

/-- ITS FALSE NEIGHBOUR: 'it returns false'. Refute it at one input. -/
def argsOffsetWrong : ChangeSpec := { name := "argsOffset", fn := fun _ => fun
  | [d1, d2, d3] => { results := [.lit (.bool false)], args := [d1, d2, d3] }
  | _ => none }
def ArgsOffsetWrongFalsely : Prop := argsOffsetRow.holds Tryz.pinned (OpenSpec.ofChange argsOffsetWrong)

/-- 'wharfingerlaw11.ArgsMade': WHATEVER THE INPUT: true; the input reads as it did. -/
def argsMadeSpec : ChangeSpec := { name := "argsMade", fn := fun _ => fun
  | [d1, d2, d3] => { results := [.lit (.bool true)], args := [d1, d2, d3] }
  | _ => none }
def argsMadeRow : OpenClaim := { program := "ytgmhapjidbdhnaagreat", sum := "f28ca907a0f98d6858a16e94e42482555acdff746a7b6536fa7eba60a9849747", func := "wharfinger/wharfingerlaw11.ArgsMade", spec := "argsMade", unfollowed := true, recurses := true, apart := false }
def ArgsMadeSaid : Prop := argsMadeRow.holds Tryz.pinned (OpenSpec.ofChange argsMadeSpec)

/-- ITS FALSE NEIGHBOUR: 'it returns false'. Refute it at one input. -/
def argsMadeWrong : ChangeSpec := { name := "argsMade", fn := fun _ => fun
  | [d1, d2, d3] => { results := [.lit (.bool false)], args := [d1, d2, d3] }
  | _ => none }
def ArgsMadeWrongFalsely : Prop := argsMadeRow.holds Tryz.pinned (OpenSpec.ofChange argsMadeWrong)

/-- 'wharfingerlaw11.ArgsOdd': WHATEVER THE INPUT: true; the input reads as it did. -/
def argsOddSpec : ChangeSpec := { name := "argsOdd", fn := fun _ => fun
  | [d1, d2] => { results := [.lit (.bool true)], args := [d1, d2] }
  | _ => none }
def argsOddRow : OpenClaim := { program := "ytgmhapjidbdhnaagreat", sum := "f28ca907a0f98d6858a16e94e42482555acdff746a7b6536fa7eba60a9849747", func := "wharfinger/wharfingerlaw11.ArgsOdd", spec := "argsOdd", unfollowed := true, recurses := true, apart := false }
def ArgsOddSaid : Prop := argsOddRow.holds Tryz.pinned (OpenSpec.ofChange argsOddSpec)

/-- ITS FALSE NEIGHBOUR: 'it returns false'. Refute it at one input. -/
def argsOddWrong : ChangeSpec := { name := "argsOdd", fn := fun _ => fun
  | [d1, d2] => { results := [.lit (.bool false)], args := [d1, d2] }
  | _ => none }
def ArgsOddWrongFalsely : Prop := argsOddRow.holds Tryz.pinned (OpenSpec.ofChange argsOddWrong)

/-- 'wharfingerlaw11.ArgsTwo': WHATEVER THE INPUT: true; the input reads as it did. -/
def argsTwoSpec : ChangeSpec := { name := "argsTwo", fn := fun _ => fun
  | [d1, d2, d3] => { results := [.lit (.bool true)], args := [d1, d2, d3] }
  | _ => none }
def argsTwoRow : OpenClaim := { program := "ytgmhapjidbdhnaagreat", sum := "f28ca907a0f98d6858a16e94e42482555acdff746a7b6536fa7eba60a9849747", func := "wharfinger/wharfingerlaw11.ArgsTwo", spec := "argsTwo", unfollowed := true, recurses := true, apart := false }
def ArgsTwoSaid : Prop := argsTwoRow.holds Tryz.pinned (OpenSpec.ofChange argsTwoSpec)

/-- ITS FALSE NEIGHBOUR: 'it returns false'. Refute it at one input. -/
def argsTwoWrong : ChangeSpec := { name := "argsTwo", fn := fun _ => fun
  | [d1, d2, d3] => { results := [.lit (.bool false)], args := [d1, d2, d3] }
  | _ => none }
def ArgsTwoWrongFalsely : Prop := argsTwoRow.holds Tryz.pinned (OpenSpec.ofChange argsTwoWrong)

/- THE SECOND FORM. 'bulk': how many values and letters a reading holds, each counted each time it is reached (what is shared counts as often as it is met; a slice's spare places count too). A statement '..UptoSaid' is the law's where the arguments, and the package variables that the reading takes, are together of bulk at most 1048576: NARROWER than '..Said'. Prove '..Said' where nothing that the law and all that it calls make is longer than what came in: it says more and counts as full. Else prove '..UptoSaid'. A law counts once. -/
mutual
def uptoBulk {H : Type} : DataW H → Nat
  | .lit (.string bytes) => bytes.length + 1
  | .lit _ => 1
  | .nil => 1
  | .ptr d => uptoBulk d + 1
  | .slice elems spare => uptoBulkAll elems + uptoBulkAll spare + 1
  | .agg parts => uptoBulkAll parts + 1
  | .iface _ d => uptoBulk d + 1
  | .map entries => uptoBulkEntries entries + 1
  | .held _ => 1
def uptoBulkAll {H : Type} : List (DataW H) → Nat
  | [] => 0
  | d :: r => uptoBulk d + uptoBulkAll r
def uptoBulkEntries {H : Type} : List (Lit × DataW H) → Nat
  | [] => 0
  | x :: r => uptoBulkEntry x + uptoBulkEntries r
def uptoBulkEntry {H : Type} : Lit × DataW H → Nat
  | (.string bytes, d) => bytes.length + uptoBulk d + 1
  | (_, d) => uptoBulk d + 1
 end
def uptoSmall : (H : Type) → List (DataW H) → Bool := fun _ ds => decide (uptoBulkAll ds ≤ 1048576)
def OpenSpec.upto (s : _root_.Go.ChangeSpec) : _root_.Go.OpenSpec := { _root_.Go.OpenSpec.ofChange s with cond := some uptoSmall }

/-- 'wharfingerlaw11.ArgsBack', WHERE WHAT IT READS IS OF BULK AT MOST 1048576: true; the input reads as it did. -/
def argsBackUptoRow : OpenClaim := { program := "ytgmhapjidbdhnaagreat", sum := "f28ca907a0f98d6858a16e94e42482555acdff746a7b6536fa7eba60a9849747", func := "wharfinger/wharfingerlaw11.ArgsBack", spec := "argsBack", unfollowed := true, recurses := true, apart := false, narrowed := true }
def ArgsBackUptoSaid : Prop := argsBackUptoRow.holds Tryz.pinned (OpenSpec.upto argsBackSpec)

/-- 'wharfingerlaw11.ArgsAgain', WHERE WHAT IT READS IS OF BULK AT MOST 1048576: true; the input reads as it did. -/
def argsAgainUptoRow : OpenClaim := { program := "ytgmhapjidbdhnaagreat", sum := "f28ca907a0f98d6858a16e94e42482555acdff746a7b6536fa7eba60a9849747", func := "wharfinger/wharfingerlaw11.ArgsAgain", spec := "argsAgain", unfollowed := true, recurses := true, apart := false, narrowed := true }
def ArgsAgainUptoSaid : Prop := argsAgainUptoRow.holds Tryz.pinned (OpenSpec.upto argsAgainSpec)

/-- 'wharfingerlaw11.ArgsFile', WHERE WHAT IT READS IS OF BULK AT MOST 1048576: true; the input reads as it did. -/
def argsFileUptoRow : OpenClaim := { program := "ytgmhapjidbdhnaagreat", sum := "f28ca907a0f98d6858a16e94e42482555acdff746a7b6536fa7eba60a9849747", func := "wharfinger/wharfingerlaw11.ArgsFile", spec := "argsFile", unfollowed := true, recurses := true, apart := false, narrowed := true }
def ArgsFileUptoSaid : Prop := argsFileUptoRow.holds Tryz.pinned (OpenSpec.upto argsFileSpec)

/-- 'wharfingerlaw11.ArgsOffset', WHERE WHAT IT READS IS OF BULK AT MOST 1048576: true; the input reads as it did. -/
def argsOffsetUptoRow : OpenClaim := { program := "ytgmhapjidbdhnaagreat", sum := "f28ca907a0f98d6858a16e94e42482555acdff746a7b6536fa7eba60a9849747", func := "wharfinger/wharfingerlaw11.ArgsOffset", spec := "argsOffset", unfollowed := true, recurses := true, apart := false, narrowed := true }
def ArgsOffsetUptoSaid : Prop := argsOffsetUptoRow.holds Tryz.pinned (OpenSpec.upto argsOffsetSpec)

/-- 'wharfingerlaw11.ArgsMade', WHERE WHAT IT READS IS OF BULK AT MOST 1048576: true; the input reads as it did. -/
def argsMadeUptoRow : OpenClaim := { program := "ytgmhapjidbdhnaagreat", sum := "f28ca907a0f98d6858a16e94e42482555acdff746a7b6536fa7eba60a9849747", func := "wharfinger/wharfingerlaw11.ArgsMade", spec := "argsMade", unfollowed := true, recurses := true, apart := false, narrowed := true }
def ArgsMadeUptoSaid : Prop := argsMadeUptoRow.holds Tryz.pinned (OpenSpec.upto argsMadeSpec)

/-- 'wharfingerlaw11.ArgsOdd', WHERE WHAT IT READS IS OF BULK AT MOST 1048576: true; the input reads as it did. -/
def argsOddUptoRow : OpenClaim := { program := "ytgmhapjidbdhnaagreat", sum := "f28ca907a0f98d6858a16e94e42482555acdff746a7b6536fa7eba60a9849747", func := "wharfinger/wharfingerlaw11.ArgsOdd", spec := "argsOdd", unfollowed := true, recurses := true, apart := false, narrowed := true }
def ArgsOddUptoSaid : Prop := argsOddUptoRow.holds Tryz.pinned (OpenSpec.upto argsOddSpec)

/-- 'wharfingerlaw11.ArgsTwo', WHERE WHAT IT READS IS OF BULK AT MOST 1048576: true; the input reads as it did. -/
def argsTwoUptoRow : OpenClaim := { program := "ytgmhapjidbdhnaagreat", sum := "f28ca907a0f98d6858a16e94e42482555acdff746a7b6536fa7eba60a9849747", func := "wharfinger/wharfingerlaw11.ArgsTwo", spec := "argsTwo", unfollowed := true, recurses := true, apart := false, narrowed := true }
def ArgsTwoUptoSaid : Prop := argsTwoUptoRow.holds Tryz.pinned (OpenSpec.upto argsTwoSpec)

end Rows
end Go.Proofs.YtgmhapjidbdhnaaGreat

/-
  No cell of these rows narrows 'for every input' (looked for: loops, veiled, ifaces, maps, wideKeys, modest, calm, conditions, laid).
  DERIVED. THE GIVEN ROWS OF THIS SEAT. 10 by the template 'for every input the law returns true; each argument reads behind the call as it read before'; 0 by the template 'total and deterministic' (their statements: YtkaapdnjlmceoaaTotals.lean).
  GIVEN WITH THE SEED: the statements are not yours to turn. If you find one false, say at which input.
  Laid BY PROGRAM, IN A SANDBOX (cutbox-rows.mjs): the forced cells as the released guide's own fill.sh prints them over the translation 5ed497d1c3ffcb8c… (all of the seat's roots in one cut). By AI agents, Wed Nov 11 2026. No macro, syntax, notation, axiom, sorry.
-/
import Derived.Test.YtkaapdnjlmceoaaChecked
import GoSem.Claim
import GoSem.ClaimJoined
import GoSem.ClaimMapViews
import Derived.JoinedTies
import Derived.KernelRfl
namespace Go.Proofs.Ytkaapdnjlmceoaa
/- THE CELL 'sum', in the pinned program and in every row, IS THE sha256 OF THE DUMP (.gsa) THAT YtkaapdnjlmceoaaProg.lean LOADS. Nothing in Lean hashes anything: it is a label: what it is worth is what the hold of that sum in a sandbox is worth. -/
noncomputable def Try.pinned : Pinned := { name := "ytkaapdnjlmceoaa", sum := "5ed497d1c3ffcb8cfdd0bda5105723d24df0d8beb8bc61065af5520044c4a172", checked := Try.checked }
namespace Rows
def none {H : Type} : Left H := { results := [], args := [] }

/-- 'wharfingerlaw10.AttrsGets': WHATEVER THE INPUT: true; the input reads as it did. -/
def attrsGetsSpec : ChangeSpec := { name := "attrsGets", fn := fun _ => fun
  | [d] => { results := [.lit (.bool true)], args := [d] }
  | _ => none }
def attrsGetsRow : OpenClaim := { program := "ytkaapdnjlmceoaa", sum := "5ed497d1c3ffcb8cfdd0bda5105723d24df0d8beb8bc61065af5520044c4a172", func := "wharfinger/wharfingerlaw10.AttrsGets", spec := "attrsGets", unfollowed := true, recurses := true, apart := false }
def AttrsGetsSaid : Prop := attrsGetsRow.holds Try.pinned (OpenSpec.ofChange attrsGetsSpec)

/-- ITS FALSE NEIGHBOUR: 'it returns false'. Refute it at one input. -/
def attrsGetsWrong : ChangeSpec := { name := "attrsGets", fn := fun _ => fun
  | [d] => { results := [.lit (.bool false)], args := [d] }
  | _ => none }
def AttrsGetsWrongFalsely : Prop := attrsGetsRow.holds Try.pinned (OpenSpec.ofChange attrsGetsWrong)

/-- 'wharfingerlaw10.AttrsGetsSet': WHATEVER THE INPUT: true; the input reads as it did. -/
def attrsGetsSetSpec : ChangeSpec := { name := "attrsGetsSet", fn := fun _ => fun
  | [d] => { results := [.lit (.bool true)], args := [d] }
  | _ => none }
def attrsGetsSetRow : OpenClaim := { program := "ytkaapdnjlmceoaa", sum := "5ed497d1c3ffcb8cfdd0bda5105723d24df0d8beb8bc61065af5520044c4a172", func := "wharfinger/wharfingerlaw10.AttrsGetsSet", spec := "attrsGetsSet", unfollowed := true, recurses := true, apart := false }
def AttrsGetsSetSaid : Prop := attrsGetsSetRow.holds Try.pinned (OpenSpec.ofChange attrsGetsSetSpec)

/-- ITS FALSE NEIGHBOUR: 'it returns false'. Refute it at one input. -/
def attrsGetsSetWrong : ChangeSpec := { name := "attrsGetsSet", fn := fun _ => fun
  | [d] => { results := [.lit (.bool false)], args := [d] }
  | _ => none }
def AttrsGetsSetWrongFalsely : Prop := attrsGetsSetRow.holds Try.pinned (OpenSpec.ofChange attrsGetsSetWrong)

/-- 'wharfingerlaw10.AttrsGetsWeak': WHATEVER THE INPUT: true; the input reads as it did. -/
def attrsGetsWeakSpec : ChangeSpec := { name := "attrsGetsWeak", fn := fun _ => fun
  | [d] => { results := [.lit (.bool true)], args := [d] }
  | _ => none }
def attrsGetsWeakRow : OpenClaim := { program := "ytkaapdnjlmceoaa", sum := "5ed497d1c3ffcb8cfdd0bda5105723d24df0d8beb8bc61065af5520044c4a172", func := "wharfinger/wharfingerlaw10.AttrsGetsWeak", spec := "attrsGetsWeak", unfollowed := true, recurses := true, apart := false }
def AttrsGetsWeakSaid : Prop := attrsGetsWeakRow.holds Try.pinned (OpenSpec.ofChange attrsGetsWeakSpec)

/-- ITS FALSE NEIGHBOUR: 'it returns false'. Refute it at one input. -/
def attrsGetsWeakWrong : ChangeSpec := { name := "attrsGetsWeak", fn := fun _ => fun
  | [d] => { results := [.lit (.bool false)], args := [d] }
  | _ => none }
def AttrsGetsWeakWrongFalsely : Prop := attrsGetsWeakRow.holds Try.pinned (OpenSpec.ofChange attrsGetsWeakWrong)

/-- 'wharfingerlaw10.AttrsBack': WHATEVER THE INPUT: true; the input reads as it did. -/
def attrsBackSpec : ChangeSpec := { name := "attrsBack", fn := fun _ => fun
  | [d1, d2, d3] => { results := [.lit (.bool true)], args := [d1, d2, d3] }
  | _ => none }
def attrsBackRow : OpenClaim := { program := "ytkaapdnjlmceoaa", sum := "5ed497d1c3ffcb8cfdd0bda5105723d24df0d8beb8bc61065af5520044c4a172", func := "wharfinger/wharfingerlaw10.AttrsBack", spec := "attrsBack", unfollowed := true, recurses := true, apart := false }
def AttrsBackSaid : Prop := attrsBackRow.holds Try.pinned (OpenSpec.ofChange attrsBackSpec)

/-- ITS FALSE NEIGHBOUR: 'it returns false'. Refute it at one input. -/
def attrsBackWrong : ChangeSpec := { name := "attrsBack", fn := fun _ => fun
  | [d1, d2, d3] => { results := [.lit (.bool false)], args := [d1, d2, d3] }
  | _ => none }
def AttrsBackWrongFalsely : Prop := attrsBackRow.holds Try.pinned (OpenSpec.ofChange attrsBackWrong)

/-- 'wharfingerlaw10.AttrsMay': WHATEVER THE INPUT: true; the input reads as it did. -/
def attrsMaySpec : ChangeSpec := { name := "attrsMay", fn := fun _ => fun
  | [d] => { results := [.lit (.bool true)], args := [d] }
  | _ => none }
def attrsMayRow : OpenClaim := { program := "ytkaapdnjlmceoaa", sum := "5ed497d1c3ffcb8cfdd0bda5105723d24df0d8beb8bc61065af5520044c4a172", func := "wharfinger/wharfingerlaw10.AttrsMay", spec := "attrsMay", unfollowed := true, recurses := true, apart := false }
def AttrsMaySaid : Prop := attrsMayRow.holds Try.pinned (OpenSpec.ofChange attrsMaySpec)

/-- ITS FALSE NEIGHBOUR: 'it returns false'. Refute it at one input. -/
def attrsMayWrong : ChangeSpec := { name := "attrsMay", fn := fun _ => fun
  | [d] => { results := [.lit (.bool false)], args := [d] }
  | _ => none }
def AttrsMayWrongFalsely : Prop := attrsMayRow.holds Try.pinned (OpenSpec.ofChange attrsMayWrong)

/-- 'wharfingerlaw10.AttrsSizes': WHATEVER THE INPUT: true; the input reads as it did. -/
def attrsSizesSpec : ChangeSpec := { name := "attrsSizes", fn := fun _ => fun
  | [d] => { results := [.lit (.bool true)], args := [d] }
  | _ => none }
def attrsSizesRow : OpenClaim := { program := "ytkaapdnjlmceoaa", sum := "5ed497d1c3ffcb8cfdd0bda5105723d24df0d8beb8bc61065af5520044c4a172", func := "wharfinger/wharfingerlaw10.AttrsSizes", spec := "attrsSizes", unfollowed := true, recurses := true, apart := false }
def AttrsSizesSaid : Prop := attrsSizesRow.holds Try.pinned (OpenSpec.ofChange attrsSizesSpec)

/-- ITS FALSE NEIGHBOUR: 'it returns false'. Refute it at one input. -/
def attrsSizesWrong : ChangeSpec := { name := "attrsSizes", fn := fun _ => fun
  | [d] => { results := [.lit (.bool false)], args := [d] }
  | _ => none }
def AttrsSizesWrongFalsely : Prop := attrsSizesRow.holds Try.pinned (OpenSpec.ofChange attrsSizesWrong)

/-- 'wharfingerlaw10.AttrsWeakParts': WHATEVER THE INPUT: true; the input reads as it did. -/
def attrsWeakPartsSpec : ChangeSpec := { name := "attrsWeakParts", fn := fun _ => fun
  | [d1, d2, d3] => { results := [.lit (.bool true)], args := [d1, d2, d3] }
  | _ => none }
def attrsWeakPartsRow : OpenClaim := { program := "ytkaapdnjlmceoaa", sum := "5ed497d1c3ffcb8cfdd0bda5105723d24df0d8beb8bc61065af5520044c4a172", func := "wharfinger/wharfingerlaw10.AttrsWeakParts", spec := "attrsWeakParts", unfollowed := true, recurses := true, apart := false }
def AttrsWeakPartsSaid : Prop := attrsWeakPartsRow.holds Try.pinned (OpenSpec.ofChange attrsWeakPartsSpec)

/-- ITS FALSE NEIGHBOUR: 'it returns false'. Refute it at one input. -/
def attrsWeakPartsWrong : ChangeSpec := { name := "attrsWeakParts", fn := fun _ => fun
  | [d1, d2, d3] => { results := [.lit (.bool false)], args := [d1, d2, d3] }
  | _ => none }
def AttrsWeakPartsWrongFalsely : Prop := attrsWeakPartsRow.holds Try.pinned (OpenSpec.ofChange attrsWeakPartsWrong)

/-- 'wharfingerlaw10.AttrsWeakBack': WHATEVER THE INPUT: true; the input reads as it did. -/
def attrsWeakBackSpec : ChangeSpec := { name := "attrsWeakBack", fn := fun _ => fun
  | [d1, d2, d3] => { results := [.lit (.bool true)], args := [d1, d2, d3] }
  | _ => none }
def attrsWeakBackRow : OpenClaim := { program := "ytkaapdnjlmceoaa", sum := "5ed497d1c3ffcb8cfdd0bda5105723d24df0d8beb8bc61065af5520044c4a172", func := "wharfinger/wharfingerlaw10.AttrsWeakBack", spec := "attrsWeakBack", unfollowed := true, recurses := true, apart := false }
def AttrsWeakBackSaid : Prop := attrsWeakBackRow.holds Try.pinned (OpenSpec.ofChange attrsWeakBackSpec)

/-- ITS FALSE NEIGHBOUR: 'it returns false'. Refute it at one input. -/
def attrsWeakBackWrong : ChangeSpec := { name := "attrsWeakBack", fn := fun _ => fun
  | [d1, d2, d3] => { results := [.lit (.bool false)], args := [d1, d2, d3] }
  | _ => none }
def AttrsWeakBackWrongFalsely : Prop := attrsWeakBackRow.holds Try.pinned (OpenSpec.ofChange attrsWeakBackWrong)

/-- 'wharfingerlaw10.AttrsSetBack': WHATEVER THE INPUT: true; the input reads as it did. -/
def attrsSetBackSpec : ChangeSpec := { name := "attrsSetBack", fn := fun _ => fun
  | [d1, d2, d3] => { results := [.lit (.bool true)], args := [d1, d2, d3] }
  | _ => none }
def attrsSetBackRow : OpenClaim := { program := "ytkaapdnjlmceoaa", sum := "5ed497d1c3ffcb8cfdd0bda5105723d24df0d8beb8bc61065af5520044c4a172", func := "wharfinger/wharfingerlaw10.AttrsSetBack", spec := "attrsSetBack", unfollowed := true, recurses := true, apart := false }
def AttrsSetBackSaid : Prop := attrsSetBackRow.holds Try.pinned (OpenSpec.ofChange attrsSetBackSpec)

/-- ITS FALSE NEIGHBOUR: 'it returns false'. Refute it at one input. -/
def attrsSetBackWrong : ChangeSpec := { name := "attrsSetBack", fn := fun _ => fun
  | [d1, d2, d3] => { results := [.lit (.bool false)], args := [d1, d2, d3] }
  | _ => none }
def AttrsSetBackWrongFalsely : Prop := attrsSetBackRow.holds Try.pinned (OpenSpec.ofChange attrsSetBackWrong)

/-- 'wharfingerlaw10.AttrsAgain': WHATEVER THE INPUT: true; the input reads as it did. -/
def attrsAgainSpec : ChangeSpec := { name := "attrsAgain", fn := fun _ => fun
  | [d] => { results := [.lit (.bool true)], args := [d] }
  | _ => none }
def attrsAgainRow : OpenClaim := { program := "ytkaapdnjlmceoaa", sum := "5ed497d1c3ffcb8cfdd0bda5105723d24df0d8beb8bc61065af5520044c4a172", func := "wharfinger/wharfingerlaw10.AttrsAgain", spec := "attrsAgain", unfollowed := true, recurses := true, apart := false }
def AttrsAgainSaid : Prop := attrsAgainRow.holds Try.pinned (OpenSpec.ofChange attrsAgainSpec)

/-- ITS FALSE NEIGHBOUR: 'it returns false'. Refute it at one input. -/
def attrsAgainWrong : ChangeSpec := { name := "attrsAgain", fn := fun _ => fun
  | [d] => { results := [.lit (.bool false)], args := [d] }
  | _ => none }
def AttrsAgainWrongFalsely : Prop := attrsAgainRow.holds Try.pinned (OpenSpec.ofChange attrsAgainWrong)

/- THE SECOND FORM. 'bulk': how many values and letters a reading holds, each counted each time it is reached (what is shared counts as often as it is met; a slice's spare places count too). A statement '..UptoSaid' is the law's where the arguments, and the package variables that the reading takes, are together of bulk at most 1048576: NARROWER than '..Said'. Prove '..Said' where nothing that the law and all that it calls make is longer than what came in: it says more and counts as full. Else prove '..UptoSaid'. A law counts once. -/
mutual
def uptoBulk {H : Type} : DataW H → Nat
  | .lit (.string bytes) => bytes.length + 1
  | .lit _ => 1
  | .nil => 1
  | .ptr d => uptoBulk d + 1
  | .slice elems spare => uptoBulkAll elems + uptoBulkAll spare + 1
  | .agg parts => uptoBulkAll parts + 1
  | .iface _ d => uptoBulk d + 1
  | .map entries => uptoBulkEntries entries + 1
  | .held _ => 1
def uptoBulkAll {H : Type} : List (DataW H) → Nat
  | [] => 0
  | d :: r => uptoBulk d + uptoBulkAll r
def uptoBulkEntries {H : Type} : List (Lit × DataW H) → Nat
  | [] => 0
  | x :: r => uptoBulkEntry x + uptoBulkEntries r
def uptoBulkEntry {H : Type} : Lit × DataW H → Nat
  | (.string bytes, d) => bytes.length + uptoBulk d + 1
  | (_, d) => uptoBulk d + 1
 end
def uptoSmall : (H : Type) → List (DataW H) → Bool := fun _ ds => decide (uptoBulkAll ds ≤ 1048576)
def OpenSpec.upto (s : _root_.Go.ChangeSpec) : _root_.Go.OpenSpec := { _root_.Go.OpenSpec.ofChange s with cond := some uptoSmall }

/-- 'wharfingerlaw10.AttrsGets', WHERE WHAT IT READS IS OF BULK AT MOST 1048576: true; the input reads as it did. -/
def attrsGetsUptoRow : OpenClaim := { program := "ytkaapdnjlmceoaa", sum := "5ed497d1c3ffcb8cfdd0bda5105723d24df0d8beb8bc61065af5520044c4a172", func := "wharfinger/wharfingerlaw10.AttrsGets", spec := "attrsGets", unfollowed := true, recurses := true, apart := false, narrowed := true }
def AttrsGetsUptoSaid : Prop := attrsGetsUptoRow.holds Try.pinned (OpenSpec.upto attrsGetsSpec)

/-- 'wharfingerlaw10.AttrsGetsSet', WHERE WHAT IT READS IS OF BULK AT MOST 1048576: true; the input reads as it did. -/
def attrsGetsSetUptoRow : OpenClaim := { program := "ytkaapdnjlmceoaa", sum := "5ed497d1c3ffcb8cfdd0bda5105723d24df0d8beb8bc61065af5520044c4a172", func := "wharfinger/wharfingerlaw10.AttrsGetsSet", spec := "attrsGetsSet", unfollowed := true, recurses := true, apart := false, narrowed := true }
def AttrsGetsSetUptoSaid : Prop := attrsGetsSetUptoRow.holds Try.pinned (OpenSpec.upto attrsGetsSetSpec)

/-- 'wharfingerlaw10.AttrsGetsWeak', WHERE WHAT IT READS IS OF BULK AT MOST 1048576: true; the input reads as it did. -/
def attrsGetsWeakUptoRow : OpenClaim := { program := "ytkaapdnjlmceoaa", sum := "5ed497d1c3ffcb8cfdd0bda5105723d24df0d8beb8bc61065af5520044c4a172", func := "wharfinger/wharfingerlaw10.AttrsGetsWeak", spec := "attrsGetsWeak", unfollowed := true, recurses := true, apart := false, narrowed := true }
def AttrsGetsWeakUptoSaid : Prop := attrsGetsWeakUptoRow.holds Try.pinned (OpenSpec.upto attrsGetsWeakSpec)

/-- 'wharfingerlaw10.AttrsBack', WHERE WHAT IT READS IS OF BULK AT MOST 1048576: true; the input reads as it did. -/
def attrsBackUptoRow : OpenClaim := { program := "ytkaapdnjlmceoaa", sum := "5ed497d1c3ffcb8cfdd0bda5105723d24df0d8beb8bc61065af5520044c4a172", func := "wharfinger/wharfingerlaw10.AttrsBack", spec := "attrsBack", unfollowed := true, recurses := true, apart := false, narrowed := true }
def AttrsBackUptoSaid : Prop := attrsBackUptoRow.holds Try.pinned (OpenSpec.upto attrsBackSpec)

/-- 'wharfingerlaw10.AttrsMay', WHERE WHAT IT READS IS OF BULK AT MOST 1048576: true; the input reads as it did. -/
def attrsMayUptoRow : OpenClaim := { program := "ytkaapdnjlmceoaa", sum := "5ed497d1c3ffcb8cfdd0bda5105723d24df0d8beb8bc61065af5520044c4a172", func := "wharfinger/wharfingerlaw10.AttrsMay", spec := "attrsMay", unfollowed := true, recurses := true, apart := false, narrowed := true }
def AttrsMayUptoSaid : Prop := attrsMayUptoRow.holds Try.pinned (OpenSpec.upto attrsMaySpec)

/-- 'wharfingerlaw10.AttrsSizes', WHERE WHAT IT READS IS OF BULK AT MOST 1048576: true; the input reads as it did. -/
def attrsSizesUptoRow : OpenClaim := { program := "ytkaapdnjlmceoaa", sum := "5ed497d1c3ffcb8cfdd0bda5105723d24df0d8beb8bc61065af5520044c4a172", func := "wharfinger/wharfingerlaw10.AttrsSizes", spec := "attrsSizes", unfollowed := true, recurses := true, apart := false, narrowed := true }
def AttrsSizesUptoSaid : Prop := attrsSizesUptoRow.holds Try.pinned (OpenSpec.upto attrsSizesSpec)

/-- 'wharfingerlaw10.AttrsWeakParts', WHERE WHAT IT READS IS OF BULK AT MOST 1048576: true; the input reads as it did. -/
def attrsWeakPartsUptoRow : OpenClaim := { program := "ytkaapdnjlmceoaa", sum := "5ed497d1c3ffcb8cfdd0bda5105723d24df0d8beb8bc61065af5520044c4a172", func := "wharfinger/wharfingerlaw10.AttrsWeakParts", spec := "attrsWeakParts", unfollowed := true, recurses := true, apart := false, narrowed := true }
def AttrsWeakPartsUptoSaid : Prop := attrsWeakPartsUptoRow.holds Try.pinned (OpenSpec.upto attrsWeakPartsSpec)

/-- 'wharfingerlaw10.AttrsWeakBack', WHERE WHAT IT READS IS OF BULK AT MOST 1048576: true; the input reads as it did. -/
def attrsWeakBackUptoRow : OpenClaim := { program := "ytkaapdnjlmceoaa", sum := "5ed497d1c3ffcb8cfdd0bda5105723d24df0d8beb8bc61065af5520044c4a172", func := "wharfinger/wharfingerlaw10.AttrsWeakBack", spec := "attrsWeakBack", unfollowed := true, recurses := true, apart := false, narrowed := true }
def AttrsWeakBackUptoSaid : Prop := attrsWeakBackUptoRow.holds Try.pinned (OpenSpec.upto attrsWeakBackSpec)

/-- 'wharfingerlaw10.AttrsSetBack', WHERE WHAT IT READS IS OF BULK AT MOST 1048576: true; the input reads as it did. -/
def attrsSetBackUptoRow : OpenClaim := { program := "ytkaapdnjlmceoaa", sum := "5ed497d1c3ffcb8cfdd0bda5105723d24df0d8beb8bc61065af5520044c4a172", func := "wharfinger/wharfingerlaw10.AttrsSetBack", spec := "attrsSetBack", unfollowed := true, recurses := true, apart := false, narrowed := true }
def AttrsSetBackUptoSaid : Prop := attrsSetBackUptoRow.holds Try.pinned (OpenSpec.upto attrsSetBackSpec)

/-- 'wharfingerlaw10.AttrsAgain', WHERE WHAT IT READS IS OF BULK AT MOST 1048576: true; the input reads as it did. -/
def attrsAgainUptoRow : OpenClaim := { program := "ytkaapdnjlmceoaa", sum := "5ed497d1c3ffcb8cfdd0bda5105723d24df0d8beb8bc61065af5520044c4a172", func := "wharfinger/wharfingerlaw10.AttrsAgain", spec := "attrsAgain", unfollowed := true, recurses := true, apart := false, narrowed := true }
def AttrsAgainUptoSaid : Prop := attrsAgainUptoRow.holds Try.pinned (OpenSpec.upto attrsAgainSpec)

end Rows
end Go.Proofs.Ytkaapdnjlmceoaa

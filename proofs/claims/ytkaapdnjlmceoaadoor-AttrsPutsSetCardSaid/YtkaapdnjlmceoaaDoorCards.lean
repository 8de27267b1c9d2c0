/-
  DERIVED. GIVEN WITH THE SEED: THE CARDS: each row of YtkaapdnjlmceoaaDoorRows.lean that lists a variable, with what it lists TIED to the program's text (the seventh form; the later family's looks); each row that meets fmt, with fmt's text TOLD by the authors' own Lean function (tested against real Go, not proved from fmt's source: count such statements apart). THE CARD IS WHAT COUNTS. Prove the row's statement (the work); the ties are given (YtkaapdnjlmceoaaDoorTie.lean); close each card by the builder's one call (the guide's Derived/Test/ToyasCard.lean, 'card_holds'). Laid BY PROGRAM, IN A SANDBOX (cutbox-door.mjs). By AI agents, Wed Nov 11 2026. No macro, syntax, notation, axiom, sorry.
-/
import Derived.Test.YtkaapdnjlmceoaaDoorRows
import GoSem.ClaimSeven
namespace Go.Proofs.YtkaapdnjlmceoaaDoor
namespace Rows

/-- THE TIED CARD OF 'wharfingerlaw10.AttrsPuts'. -/
def attrsPutsCard : Claim7 := { stood := { row := attrsPutsRow, standIns := [], harness := (true, "6bb62357a28197b59b976bca66b72ed029fba2d1ae7eb6e8182d97a79e089ff7"), looks := true }, kinds := [], alts := [], laidByText := true, laidKinds := [.data, .data, .data], laidTests := true, laidLooks := .later }
def AttrsPutsCardSaid : Prop := Claim7.holds Tryd.pinned (.plain (OpenSpec.ofChange attrsPutsSpec)) attrsPutsCard

/-- THE TIED CARD OF 'wharfingerlaw10.AttrsPutsSet'. -/
def attrsPutsSetCard : Claim7 := { stood := { row := attrsPutsSetRow, standIns := [], harness := (true, "6bb62357a28197b59b976bca66b72ed029fba2d1ae7eb6e8182d97a79e089ff7"), looks := true }, kinds := [], alts := [], laidByText := true, laidKinds := [.data, .data, .data], laidTests := true, laidLooks := .later }
def AttrsPutsSetCardSaid : Prop := Claim7.holds Tryd.pinned (.plain (OpenSpec.ofChange attrsPutsSetSpec)) attrsPutsSetCard

/-- THE SECOND FORM's CARD OF 'wharfingerlaw10.AttrsPuts'. -/
def attrsPutsUptoCard : Claim7 := { stood := { row := attrsPutsUptoRow, standIns := [], harness := (true, "6bb62357a28197b59b976bca66b72ed029fba2d1ae7eb6e8182d97a79e089ff7"), looks := true }, kinds := [], alts := [], laidByText := true, laidKinds := [.data, .data, .data], laidTests := true, laidLooks := .later }
def AttrsPutsUptoCardSaid : Prop := Claim7.holds Tryd.pinned (.plain (OpenSpec.upto attrsPutsSpec)) attrsPutsUptoCard

/-- THE SECOND FORM's CARD OF 'wharfingerlaw10.AttrsPutsSet'. -/
def attrsPutsSetUptoCard : Claim7 := { stood := { row := attrsPutsSetUptoRow, standIns := [], harness := (true, "6bb62357a28197b59b976bca66b72ed029fba2d1ae7eb6e8182d97a79e089ff7"), looks := true }, kinds := [], alts := [], laidByText := true, laidKinds := [.data, .data, .data], laidTests := true, laidLooks := .later }
def AttrsPutsSetUptoCardSaid : Prop := Claim7.holds Tryd.pinned (.plain (OpenSpec.upto attrsPutsSetSpec)) attrsPutsSetUptoCard
end Rows
end Go.Proofs.YtkaapdnjlmceoaaDoor

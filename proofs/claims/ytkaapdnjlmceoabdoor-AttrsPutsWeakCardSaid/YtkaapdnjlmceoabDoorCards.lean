/-
  DERIVED. GIVEN WITH THE SEED: THE CARDS: each row of YtkaapdnjlmceoabDoorRows.lean that lists a variable, with what it lists TIED to the program's text (the seventh form; the later family's looks); each row that meets fmt, with fmt's text TOLD by the authors' own Lean function (tested against real Go, not proved from fmt's source: count such statements apart). THE CARD IS WHAT COUNTS. Prove the row's statement (the work); the ties are given (YtkaapdnjlmceoabDoorTie.lean); close each card by the builder's one call (the guide's Derived/Test/ToyasCard.lean, 'card_holds'). Laid BY PROGRAM, IN A SANDBOX (cutbox-door.mjs). By AI agents, Wed Nov 11 2026. No macro, syntax, notation, axiom, sorry.
-/
import Derived.Test.YtkaapdnjlmceoabDoorRows
import GoSem.ClaimSeven
namespace Go.Proofs.YtkaapdnjlmceoabDoor
namespace Rows

/-- THE TIED CARD OF 'wharfingerlaw10.AttrsPutsWeak'. -/
def attrsPutsWeakCard : Claim7 := { stood := { row := attrsPutsWeakRow, standIns := [], harness := (true, "8474aaa4245f0e89fa1043e1491085e1a83a3259b93010a1717f877839aff019"), looks := true }, kinds := [], alts := [], laidByText := true, laidKinds := [.data, .data, .data], laidTests := true, laidLooks := .later }
def AttrsPutsWeakCardSaid : Prop := Claim7.holds Tryd.pinned (.plain (OpenSpec.ofChange attrsPutsWeakSpec)) attrsPutsWeakCard

/-- THE SECOND FORM's CARD OF 'wharfingerlaw10.AttrsPutsWeak'. -/
def attrsPutsWeakUptoCard : Claim7 := { stood := { row := attrsPutsWeakUptoRow, standIns := [], harness := (true, "8474aaa4245f0e89fa1043e1491085e1a83a3259b93010a1717f877839aff019"), looks := true }, kinds := [], alts := [], laidByText := true, laidKinds := [.data, .data, .data], laidTests := true, laidLooks := .later }
def AttrsPutsWeakUptoCardSaid : Prop := Claim7.holds Tryd.pinned (.plain (OpenSpec.upto attrsPutsWeakSpec)) attrsPutsWeakUptoCard
end Rows
end Go.Proofs.YtkaapdnjlmceoabDoor

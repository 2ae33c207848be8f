/-
  DERIVED. GIVEN WITH THE SEED: THE CARDS: each row of YtmlmdpdboigojaaGreatDoorRows.lean that lists a variable, with what it lists TIED to the program's text (the seventh form; the later family's looks); each row that meets fmt, with fmt's text TOLD by the authors' own Lean function (tested against real Go, not proved from fmt's source: count such statements apart). THE CARD IS WHAT COUNTS. Prove the row's statement (the work); the ties are given (YtmlmdpdboigojaaGreatDoorTie.lean); close each card by the builder's one call (the guide's Derived/Test/ToyasCard.lean, 'card_holds'). Laid BY PROGRAM, IN A SANDBOX (cutbox-door.mjs). By AI agents, Wed Nov 11 2026. No macro, syntax, notation, axiom, sorry.
-/
import Derived.Test.YtmlmdpdboigojaaGreatDoorRows
import GoSem.ClaimSeven
namespace Go.Proofs.YtmlmdpdboigojaaGreatDoor
namespace Rows

/-- THE TIED CARD OF 'laws.FnExactSearchBox'. -/
def fnExactSearchBoxCard : Claim7 := { stood := { row := fnExactSearchBoxRow, standIns := [], harness := (true, "49328d875ec608d9aebfbc03726211ca3766550a7d9221f4f268e78f1c167927"), looks := true }, kinds := [], alts := [], laidByText := true, laidKinds := [.data, .data, .pinned, .pinned], laidTests := true, laidLooks := .later }
def FnExactSearchBoxCardSaid : Prop := Claim7.holds Tryz.pinned (.plain (OpenSpec.ofChange fnExactSearchBoxSpec)) fnExactSearchBoxCard

/-- THE SECOND FORM's CARD OF 'laws.FnExactSearchBox'. -/
def fnExactSearchBoxUptoCard : Claim7 := { stood := { row := fnExactSearchBoxUptoRow, standIns := [], harness := (true, "49328d875ec608d9aebfbc03726211ca3766550a7d9221f4f268e78f1c167927"), looks := true }, kinds := [], alts := [], laidByText := true, laidKinds := [.data, .data, .pinned, .pinned], laidTests := true, laidLooks := .later }
def FnExactSearchBoxUptoCardSaid : Prop := Claim7.holds Tryz.pinned (.plain (OpenSpec.upto fnExactSearchBoxSpec)) fnExactSearchBoxUptoCard
end Rows
end Go.Proofs.YtmlmdpdboigojaaGreatDoor

/-
  DERIVED. GIVEN WITH THE SEED: THE CARDS: each row of YtpjifcljkgcnlaaGreatDoorRows.lean that lists a variable, with what it lists TIED to the program's text (the seventh form; the later family's looks); each row that meets fmt, with fmt's text TOLD by the authors' own Lean function (tested against real Go, not proved from fmt's source: count such statements apart). THE CARD IS WHAT COUNTS. Prove the row's statement (the work); the ties are given (YtpjifcljkgcnlaaGreatDoorTie.lean); close each card by the builder's one call (the guide's Derived/Test/ToyasCard.lean, 'card_holds'). Laid BY PROGRAM, IN A SANDBOX (cutbox-door.mjs). By AI agents, Wed Nov 11 2026. No macro, syntax, notation, axiom, sorry.
-/
import Derived.Test.YtpjifcljkgcnlaaGreatDoorRows
import GoSem.ClaimSeven
namespace Go.Proofs.YtpjifcljkgcnlaaGreatDoor
namespace Rows

/-- THE TIED CARD OF 'laws.FnExactSubmissionRun'. -/
def fnExactSubmissionRunCard : Claim7 := { stood := { row := fnExactSubmissionRunRow, standIns := [], harness := (true, "7cc5847a08cc79b9d8aa0e3077f520312d60cc5b4c5bd0750d714b97b92353c4"), looks := false }, kinds := [], alts := [], laidByText := true, laidKinds := [.data, .pinned], laidTests := true, laidLooks := .later }
def FnExactSubmissionRunCardSaid : Prop := Claim7.holds Tryz.pinned (.plain (OpenSpec.ofChange fnExactSubmissionRunSpec)) fnExactSubmissionRunCard

/-- THE SECOND FORM's CARD OF 'laws.FnExactSubmissionRun'. -/
def fnExactSubmissionRunUptoCard : Claim7 := { stood := { row := fnExactSubmissionRunUptoRow, standIns := [], harness := (true, "7cc5847a08cc79b9d8aa0e3077f520312d60cc5b4c5bd0750d714b97b92353c4"), looks := false }, kinds := [], alts := [], laidByText := true, laidKinds := [.data, .pinned], laidTests := true, laidLooks := .later }
def FnExactSubmissionRunUptoCardSaid : Prop := Claim7.holds Tryz.pinned (.plain (OpenSpec.upto fnExactSubmissionRunSpec)) fnExactSubmissionRunUptoCard
end Rows
end Go.Proofs.YtpjifcljkgcnlaaGreatDoor

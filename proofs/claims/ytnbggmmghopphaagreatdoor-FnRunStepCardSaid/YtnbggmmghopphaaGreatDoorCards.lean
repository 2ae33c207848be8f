/-
  DERIVED. GIVEN WITH THE SEED: THE CARDS: each row of YtnbggmmghopphaaGreatDoorRows.lean that lists a variable, with what it lists TIED to the program's text (the seventh form; the later family's looks); each row that meets fmt, with fmt's text TOLD by the authors' own Lean function (tested against real Go, not proved from fmt's source: count such statements apart). THE CARD IS WHAT COUNTS. Prove the row's statement (the work); the ties are given (YtnbggmmghopphaaGreatDoorTie.lean); close each card by the builder's one call (the guide's Derived/Test/ToyasCard.lean, 'card_holds'). Laid BY PROGRAM, IN A SANDBOX (cutbox-door.mjs). By AI agents, Wed Nov 11 2026. No macro, syntax, notation, axiom, sorry.
-/
import Derived.Test.YtnbggmmghopphaaGreatDoorRows
import GoSem.ClaimSeven
namespace Go.Proofs.YtnbggmmghopphaaGreatDoor
namespace Rows

/-- THE TIED CARD OF 'laws.FnRunStep'. -/
def fnRunStepCard : Claim7 := { stood := { row := fnRunStepRow, standIns := [], harness := (true, "3d2eb11ee7556ff06b91f18f77f942921151ccd8806cafaad0ca3325dcfe1d9b"), looks := false }, kinds := [], alts := [], laidByText := true, laidKinds := [.data, .pinned], laidTests := true, laidLooks := .later }
def FnRunStepCardSaid : Prop := Claim7.holds Tryz.pinned (.plain (OpenSpec.ofChange fnRunStepSpec)) fnRunStepCard

/-- THE TIED CARD OF 'laws.FnRunUsers'. -/
def fnRunUsersCard : Claim7 := { stood := { row := fnRunUsersRow, standIns := [], harness := (true, "3d2eb11ee7556ff06b91f18f77f942921151ccd8806cafaad0ca3325dcfe1d9b"), looks := false }, kinds := [], alts := [], laidByText := true, laidKinds := [.data, .pinned], laidTests := true, laidLooks := .later }
def FnRunUsersCardSaid : Prop := Claim7.holds Tryz.pinned (.plain (OpenSpec.ofChange fnRunUsersSpec)) fnRunUsersCard

/-- THE TIED CARD OF 'laws.FnExactSubmissionRun'. -/
def fnExactSubmissionRunCard : Claim7 := { stood := { row := fnExactSubmissionRunRow, standIns := [], harness := (true, "3d2eb11ee7556ff06b91f18f77f942921151ccd8806cafaad0ca3325dcfe1d9b"), looks := false }, kinds := [], alts := [], laidByText := true, laidKinds := [.data, .pinned], laidTests := true, laidLooks := .later }
def FnExactSubmissionRunCardSaid : Prop := Claim7.holds Tryz.pinned (.plain (OpenSpec.ofChange fnExactSubmissionRunSpec)) fnExactSubmissionRunCard

/-- THE TIED CARD OF 'laws.FnDot'. -/
def fnDotCard : Claim7 := { stood := { row := fnDotRow, standIns := [], harness := (true, "3d2eb11ee7556ff06b91f18f77f942921151ccd8806cafaad0ca3325dcfe1d9b"), looks := false }, kinds := [], alts := [], laidByText := true, laidKinds := [.data, .pinned], laidTests := true, laidLooks := .later }
def FnDotCardSaid : Prop := Claim7.holds Tryz.pinned (.plain (OpenSpec.ofChange fnDotSpec)) fnDotCard

/-- THE TIED CARD OF 'laws.FnDotLine'. -/
def fnDotLineCard : Claim7 := { stood := { row := fnDotLineRow, standIns := [], harness := (true, "3d2eb11ee7556ff06b91f18f77f942921151ccd8806cafaad0ca3325dcfe1d9b"), looks := false }, kinds := [], alts := [], laidByText := true, laidKinds := [.data, .pinned], laidTests := true, laidLooks := .later }
def FnDotLineCardSaid : Prop := Claim7.holds Tryz.pinned (.plain (OpenSpec.ofChange fnDotLineSpec)) fnDotLineCard

/-- THE TIED CARD OF 'laws.FnFrom'. -/
def fnFromCard : Claim7 := { stood := { row := fnFromRow, standIns := [], harness := (true, "3d2eb11ee7556ff06b91f18f77f942921151ccd8806cafaad0ca3325dcfe1d9b"), looks := false }, kinds := [], alts := [], laidByText := true, laidKinds := [.data, .pinned], laidTests := true, laidLooks := .later }
def FnFromCardSaid : Prop := Claim7.holds Tryz.pinned (.plain (OpenSpec.ofChange fnFromSpec)) fnFromCard

/-- THE TIED CARD OF 'laws.FnLineValid'. -/
def fnLineValidCard : Claim7 := { stood := { row := fnLineValidRow, standIns := [], harness := (true, "3d2eb11ee7556ff06b91f18f77f942921151ccd8806cafaad0ca3325dcfe1d9b"), looks := false }, kinds := [], alts := [], laidByText := true, laidKinds := [.data, .pinned], laidTests := true, laidLooks := .later }
def FnLineValidCardSaid : Prop := Claim7.holds Tryz.pinned (.plain (OpenSpec.ofChange fnLineValidSpec)) fnLineValidCard

/-- THE TIED CARD OF 'laws.FnRcptEarly'. -/
def fnRcptEarlyCard : Claim7 := { stood := { row := fnRcptEarlyRow, standIns := [], harness := (true, "3d2eb11ee7556ff06b91f18f77f942921151ccd8806cafaad0ca3325dcfe1d9b"), looks := false }, kinds := [], alts := [], laidByText := true, laidKinds := [.data, .pinned], laidTests := true, laidLooks := .later }
def FnRcptEarlyCardSaid : Prop := Claim7.holds Tryz.pinned (.plain (OpenSpec.ofChange fnRcptEarlySpec)) fnRcptEarlyCard

/-- THE TIED CARD OF 'laws.FnText'. -/
def fnTextCard : Claim7 := { stood := { row := fnTextRow, standIns := [], harness := (true, "3d2eb11ee7556ff06b91f18f77f942921151ccd8806cafaad0ca3325dcfe1d9b"), looks := false }, kinds := [], alts := [], laidByText := true, laidKinds := [.data, .pinned], laidTests := true, laidLooks := .later }
def FnTextCardSaid : Prop := Claim7.holds Tryz.pinned (.plain (OpenSpec.ofChange fnTextSpec)) fnTextCard

/-- THE TIED CARD OF 'laws.FnAuthWrong'. -/
def fnAuthWrongCard : Claim7 := { stood := { row := fnAuthWrongRow, standIns := [], harness := (true, "3d2eb11ee7556ff06b91f18f77f942921151ccd8806cafaad0ca3325dcfe1d9b"), looks := false }, kinds := [], alts := [], laidByText := true, laidKinds := [.data, .pinned], laidTests := true, laidLooks := .later }
def FnAuthWrongCardSaid : Prop := Claim7.holds Tryz.pinned (.plain (OpenSpec.ofChange fnAuthWrongSpec)) fnAuthWrongCard

/-- THE TIED CARD OF 'laws.FnRcpt'. -/
def fnRcptCard : Claim7 := { stood := { row := fnRcptRow, standIns := [], harness := (true, "3d2eb11ee7556ff06b91f18f77f942921151ccd8806cafaad0ca3325dcfe1d9b"), looks := false }, kinds := [], alts := [], laidByText := true, laidKinds := [.data, .pinned], laidTests := true, laidLooks := .later }
def FnRcptCardSaid : Prop := Claim7.holds Tryz.pinned (.plain (OpenSpec.ofChange fnRcptSpec)) fnRcptCard

/-- THE TIED CARD OF 'laws.FnRcptUnknown'. -/
def fnRcptUnknownCard : Claim7 := { stood := { row := fnRcptUnknownRow, standIns := [], harness := (true, "3d2eb11ee7556ff06b91f18f77f942921151ccd8806cafaad0ca3325dcfe1d9b"), looks := false }, kinds := [], alts := [], laidByText := true, laidKinds := [.data, .pinned], laidTests := true, laidLooks := .later }
def FnRcptUnknownCardSaid : Prop := Claim7.holds Tryz.pinned (.plain (OpenSpec.ofChange fnRcptUnknownSpec)) fnRcptUnknownCard

/-- THE TIED CARD OF 'laws.FnExactSubmissionLine'. -/
def fnExactSubmissionLineCard : Claim7 := { stood := { row := fnExactSubmissionLineRow, standIns := [], harness := (true, "3d2eb11ee7556ff06b91f18f77f942921151ccd8806cafaad0ca3325dcfe1d9b"), looks := false }, kinds := [], alts := [], laidByText := true, laidKinds := [.data, .pinned], laidTests := true, laidLooks := .later }
def FnExactSubmissionLineCardSaid : Prop := Claim7.holds Tryz.pinned (.plain (OpenSpec.ofChange fnExactSubmissionLineSpec)) fnExactSubmissionLineCard

/-- THE TIED CARD OF 'laws.FnRun'. -/
def fnRunCard : Claim7 := { stood := { row := fnRunRow, standIns := [], harness := (true, "3d2eb11ee7556ff06b91f18f77f942921151ccd8806cafaad0ca3325dcfe1d9b"), looks := false }, kinds := [], alts := [], laidByText := true, laidKinds := [.data, .pinned], laidTests := true, laidLooks := .later }
def FnRunCardSaid : Prop := Claim7.holds Tryz.pinned (.plain (OpenSpec.ofChange fnRunSpec)) fnRunCard

/-- THE TIED CARD OF 'laws.FnRunPart'. -/
def fnRunPartCard : Claim7 := { stood := { row := fnRunPartRow, standIns := [], harness := (true, "3d2eb11ee7556ff06b91f18f77f942921151ccd8806cafaad0ca3325dcfe1d9b"), looks := false }, kinds := [], alts := [], laidByText := true, laidKinds := [.data, .pinned], laidTests := true, laidLooks := .later }
def FnRunPartCardSaid : Prop := Claim7.holds Tryz.pinned (.plain (OpenSpec.ofChange fnRunPartSpec)) fnRunPartCard

/-- THE SECOND FORM's CARD OF 'laws.FnRunStep'. -/
def fnRunStepUptoCard : Claim7 := { stood := { row := fnRunStepUptoRow, standIns := [], harness := (true, "3d2eb11ee7556ff06b91f18f77f942921151ccd8806cafaad0ca3325dcfe1d9b"), looks := false }, kinds := [], alts := [], laidByText := true, laidKinds := [.data, .pinned], laidTests := true, laidLooks := .later }
def FnRunStepUptoCardSaid : Prop := Claim7.holds Tryz.pinned (.plain (OpenSpec.upto fnRunStepSpec)) fnRunStepUptoCard

/-- THE SECOND FORM's CARD OF 'laws.FnRunUsers'. -/
def fnRunUsersUptoCard : Claim7 := { stood := { row := fnRunUsersUptoRow, standIns := [], harness := (true, "3d2eb11ee7556ff06b91f18f77f942921151ccd8806cafaad0ca3325dcfe1d9b"), looks := false }, kinds := [], alts := [], laidByText := true, laidKinds := [.data, .pinned], laidTests := true, laidLooks := .later }
def FnRunUsersUptoCardSaid : Prop := Claim7.holds Tryz.pinned (.plain (OpenSpec.upto fnRunUsersSpec)) fnRunUsersUptoCard

/-- THE SECOND FORM's CARD OF 'laws.FnExactSubmissionRun'. -/
def fnExactSubmissionRunUptoCard : Claim7 := { stood := { row := fnExactSubmissionRunUptoRow, standIns := [], harness := (true, "3d2eb11ee7556ff06b91f18f77f942921151ccd8806cafaad0ca3325dcfe1d9b"), looks := false }, kinds := [], alts := [], laidByText := true, laidKinds := [.data, .pinned], laidTests := true, laidLooks := .later }
def FnExactSubmissionRunUptoCardSaid : Prop := Claim7.holds Tryz.pinned (.plain (OpenSpec.upto fnExactSubmissionRunSpec)) fnExactSubmissionRunUptoCard

/-- THE SECOND FORM's CARD OF 'laws.FnDot'. -/
def fnDotUptoCard : Claim7 := { stood := { row := fnDotUptoRow, standIns := [], harness := (true, "3d2eb11ee7556ff06b91f18f77f942921151ccd8806cafaad0ca3325dcfe1d9b"), looks := false }, kinds := [], alts := [], laidByText := true, laidKinds := [.data, .pinned], laidTests := true, laidLooks := .later }
def FnDotUptoCardSaid : Prop := Claim7.holds Tryz.pinned (.plain (OpenSpec.upto fnDotSpec)) fnDotUptoCard

/-- THE SECOND FORM's CARD OF 'laws.FnDotLine'. -/
def fnDotLineUptoCard : Claim7 := { stood := { row := fnDotLineUptoRow, standIns := [], harness := (true, "3d2eb11ee7556ff06b91f18f77f942921151ccd8806cafaad0ca3325dcfe1d9b"), looks := false }, kinds := [], alts := [], laidByText := true, laidKinds := [.data, .pinned], laidTests := true, laidLooks := .later }
def FnDotLineUptoCardSaid : Prop := Claim7.holds Tryz.pinned (.plain (OpenSpec.upto fnDotLineSpec)) fnDotLineUptoCard

/-- THE SECOND FORM's CARD OF 'laws.FnFrom'. -/
def fnFromUptoCard : Claim7 := { stood := { row := fnFromUptoRow, standIns := [], harness := (true, "3d2eb11ee7556ff06b91f18f77f942921151ccd8806cafaad0ca3325dcfe1d9b"), looks := false }, kinds := [], alts := [], laidByText := true, laidKinds := [.data, .pinned], laidTests := true, laidLooks := .later }
def FnFromUptoCardSaid : Prop := Claim7.holds Tryz.pinned (.plain (OpenSpec.upto fnFromSpec)) fnFromUptoCard

/-- THE SECOND FORM's CARD OF 'laws.FnLineValid'. -/
def fnLineValidUptoCard : Claim7 := { stood := { row := fnLineValidUptoRow, standIns := [], harness := (true, "3d2eb11ee7556ff06b91f18f77f942921151ccd8806cafaad0ca3325dcfe1d9b"), looks := false }, kinds := [], alts := [], laidByText := true, laidKinds := [.data, .pinned], laidTests := true, laidLooks := .later }
def FnLineValidUptoCardSaid : Prop := Claim7.holds Tryz.pinned (.plain (OpenSpec.upto fnLineValidSpec)) fnLineValidUptoCard

/-- THE SECOND FORM's CARD OF 'laws.FnRcptEarly'. -/
def fnRcptEarlyUptoCard : Claim7 := { stood := { row := fnRcptEarlyUptoRow, standIns := [], harness := (true, "3d2eb11ee7556ff06b91f18f77f942921151ccd8806cafaad0ca3325dcfe1d9b"), looks := false }, kinds := [], alts := [], laidByText := true, laidKinds := [.data, .pinned], laidTests := true, laidLooks := .later }
def FnRcptEarlyUptoCardSaid : Prop := Claim7.holds Tryz.pinned (.plain (OpenSpec.upto fnRcptEarlySpec)) fnRcptEarlyUptoCard

/-- THE SECOND FORM's CARD OF 'laws.FnText'. -/
def fnTextUptoCard : Claim7 := { stood := { row := fnTextUptoRow, standIns := [], harness := (true, "3d2eb11ee7556ff06b91f18f77f942921151ccd8806cafaad0ca3325dcfe1d9b"), looks := false }, kinds := [], alts := [], laidByText := true, laidKinds := [.data, .pinned], laidTests := true, laidLooks := .later }
def FnTextUptoCardSaid : Prop := Claim7.holds Tryz.pinned (.plain (OpenSpec.upto fnTextSpec)) fnTextUptoCard

/-- THE SECOND FORM's CARD OF 'laws.FnAuthWrong'. -/
def fnAuthWrongUptoCard : Claim7 := { stood := { row := fnAuthWrongUptoRow, standIns := [], harness := (true, "3d2eb11ee7556ff06b91f18f77f942921151ccd8806cafaad0ca3325dcfe1d9b"), looks := false }, kinds := [], alts := [], laidByText := true, laidKinds := [.data, .pinned], laidTests := true, laidLooks := .later }
def FnAuthWrongUptoCardSaid : Prop := Claim7.holds Tryz.pinned (.plain (OpenSpec.upto fnAuthWrongSpec)) fnAuthWrongUptoCard

/-- THE SECOND FORM's CARD OF 'laws.FnRcpt'. -/
def fnRcptUptoCard : Claim7 := { stood := { row := fnRcptUptoRow, standIns := [], harness := (true, "3d2eb11ee7556ff06b91f18f77f942921151ccd8806cafaad0ca3325dcfe1d9b"), looks := false }, kinds := [], alts := [], laidByText := true, laidKinds := [.data, .pinned], laidTests := true, laidLooks := .later }
def FnRcptUptoCardSaid : Prop := Claim7.holds Tryz.pinned (.plain (OpenSpec.upto fnRcptSpec)) fnRcptUptoCard

/-- THE SECOND FORM's CARD OF 'laws.FnRcptUnknown'. -/
def fnRcptUnknownUptoCard : Claim7 := { stood := { row := fnRcptUnknownUptoRow, standIns := [], harness := (true, "3d2eb11ee7556ff06b91f18f77f942921151ccd8806cafaad0ca3325dcfe1d9b"), looks := false }, kinds := [], alts := [], laidByText := true, laidKinds := [.data, .pinned], laidTests := true, laidLooks := .later }
def FnRcptUnknownUptoCardSaid : Prop := Claim7.holds Tryz.pinned (.plain (OpenSpec.upto fnRcptUnknownSpec)) fnRcptUnknownUptoCard

/-- THE SECOND FORM's CARD OF 'laws.FnExactSubmissionLine'. -/
def fnExactSubmissionLineUptoCard : Claim7 := { stood := { row := fnExactSubmissionLineUptoRow, standIns := [], harness := (true, "3d2eb11ee7556ff06b91f18f77f942921151ccd8806cafaad0ca3325dcfe1d9b"), looks := false }, kinds := [], alts := [], laidByText := true, laidKinds := [.data, .pinned], laidTests := true, laidLooks := .later }
def FnExactSubmissionLineUptoCardSaid : Prop := Claim7.holds Tryz.pinned (.plain (OpenSpec.upto fnExactSubmissionLineSpec)) fnExactSubmissionLineUptoCard

/-- THE SECOND FORM's CARD OF 'laws.FnRun'. -/
def fnRunUptoCard : Claim7 := { stood := { row := fnRunUptoRow, standIns := [], harness := (true, "3d2eb11ee7556ff06b91f18f77f942921151ccd8806cafaad0ca3325dcfe1d9b"), looks := false }, kinds := [], alts := [], laidByText := true, laidKinds := [.data, .pinned], laidTests := true, laidLooks := .later }
def FnRunUptoCardSaid : Prop := Claim7.holds Tryz.pinned (.plain (OpenSpec.upto fnRunSpec)) fnRunUptoCard

/-- THE SECOND FORM's CARD OF 'laws.FnRunPart'. -/
def fnRunPartUptoCard : Claim7 := { stood := { row := fnRunPartUptoRow, standIns := [], harness := (true, "3d2eb11ee7556ff06b91f18f77f942921151ccd8806cafaad0ca3325dcfe1d9b"), looks := false }, kinds := [], alts := [], laidByText := true, laidKinds := [.data, .pinned], laidTests := true, laidLooks := .later }
def FnRunPartUptoCardSaid : Prop := Claim7.holds Tryz.pinned (.plain (OpenSpec.upto fnRunPartSpec)) fnRunPartUptoCard
end Rows
end Go.Proofs.YtnbggmmghopphaaGreatDoor

/-
  NARROWER THAN 'FOR EVERY INPUT', by the rows' own cells (each row's printed sentence says how): FnRunStep: laid · FnRunUsers: laid · FnExactSubmissionRun: laid · FnDot: laid · FnDotLine: laid · FnFrom: laid · FnLineValid: laid · FnRcptEarly: laid · FnText: laid · FnAuthWrong: laid · FnRcpt: laid · FnRcptUnknown: laid · FnExactSubmissionLine: laid · FnRun: laid · FnRunPart: laid.
  DERIVED. THE GIVEN ROWS OF THIS SEAT. 15 by the template 'for every input the law returns true; each argument reads behind the call as it read before'; 0 by the template 'total and deterministic' (their statements: YtnbggmmghopphaaGreatDoorTotals.lean).
  GIVEN WITH THE SEED: the statements are not yours to turn. If you find one false, say at which input.
  Laid BY PROGRAM, IN A SANDBOX (cutbox-rows.mjs): the forced cells as the released guide's own fill.sh prints them over the translation ca04e8aca069628c… (all of the seat's roots in one cut). By AI agents, Wed Nov 11 2026. No macro, syntax, notation, axiom, sorry.
-/
import Derived.Test.YtnbggmmghopphaaGreatDoorChecked
import GoSem.PinnedTables
import GoSem.Claim
import GoSem.ClaimJoined
import GoSem.ClaimMapViews
import Derived.JoinedTies
import Derived.KernelRfl
namespace Go.Proofs.YtnbggmmghopphaaGreatDoor
/- THE CELL 'sum', in the pinned program and in every row, IS THE sha256 OF THE DUMP (.gsa) THAT YtnbggmmghopphaaGreatDoorProg.lean LOADS. Nothing in Lean hashes anything: it is a label: what it is worth is what the hold of that sum in a sandbox is worth. -/
noncomputable def Tryz.pinned : Pinned := { name := "ytnbggmmghopphaagreatdoor", sum := "ca04e8aca069628c4e506fb64ac69277ac94af7e3939d24837951aad94c8788d", checked := Tryz.checked }
namespace Rows
def none {H : Type} : Left H := { results := [], args := [] }

/- WHAT THE LISTED PACKAGE-LEVEL VARIABLES READ AS WHEN THE CALL BEGINS. Each datum BY PROGRAM (the guide's laid-datum.mjs) off the statement by which the dump's own 'gosem.cut.vars' lays the variable. In a bare row this is a premise. The card (YtnbggmmghopphaaGreatDoorCards.lean) ties it to the program's text. -/
def laid_unicode_utf8_acceptRanges {H : Type} : DataW H := .agg [.agg [.lit (.int .u8 128), .lit (.int .u8 191)], .agg [.lit (.int .u8 160), .lit (.int .u8 191)], .agg [.lit (.int .u8 128), .lit (.int .u8 159)], .agg [.lit (.int .u8 144), .lit (.int .u8 191)], .agg [.lit (.int .u8 128), .lit (.int .u8 143)], .agg [.lit (.int .u8 0), .lit (.int .u8 0)], .agg [.lit (.int .u8 0), .lit (.int .u8 0)], .agg [.lit (.int .u8 0), .lit (.int .u8 0)], .agg [.lit (.int .u8 0), .lit (.int .u8 0)], .agg [.lit (.int .u8 0), .lit (.int .u8 0)], .agg [.lit (.int .u8 0), .lit (.int .u8 0)], .agg [.lit (.int .u8 0), .lit (.int .u8 0)], .agg [.lit (.int .u8 0), .lit (.int .u8 0)], .agg [.lit (.int .u8 0), .lit (.int .u8 0)], .agg [.lit (.int .u8 0), .lit (.int .u8 0)], .agg [.lit (.int .u8 0), .lit (.int .u8 0)]]
/-- One of Go's own tables, pinned by name: the form's constant. -/
def laid_unicode_utf8_first : DataW Unit := Go.Pinned.utf8First

/-- 'laws.FnRunStep': WHATEVER THE INPUT: true; the input reads as it did. -/
def fnRunStepSpec : ChangeSpec := { name := "fnRunStep", fn := fun _ => fun
  | [d] => { results := [.lit (.bool true)], args := [d] }
  | _ => none }
def fnRunStepRow : OpenClaim := { program := "ytnbggmmghopphaagreatdoor", sum := "ca04e8aca069628c4e506fb64ac69277ac94af7e3939d24837951aad94c8788d", func := "loop.example/mailhost/laws.FnRunStep", spec := "fnRunStep", inPlace := ["internal/bytealg.CountString", "internal/bytealg.IndexByteString", "internal/bytealg.IndexString", "internal/abi.NoEscape"], unfollowed := true, recurses := true, named := ["unicode/utf8.first", "unicode/utf8.acceptRanges", "internal/bytealg.MaxLen"], apart := false, laid := [("unicode/utf8.acceptRanges", laid_unicode_utf8_acceptRanges), ("unicode/utf8.first", laid_unicode_utf8_first)] }
def FnRunStepSaid : Prop := fnRunStepRow.holds Tryz.pinned (OpenSpec.ofChange fnRunStepSpec)

/-- ITS FALSE NEIGHBOUR: 'it returns false'. Refute it at one input. -/
def fnRunStepWrong : ChangeSpec := { name := "fnRunStep", fn := fun _ => fun
  | [d] => { results := [.lit (.bool false)], args := [d] }
  | _ => none }
def FnRunStepWrongFalsely : Prop := fnRunStepRow.holds Tryz.pinned (OpenSpec.ofChange fnRunStepWrong)

/-- 'laws.FnRunUsers': WHATEVER THE INPUT: true; the input reads as it did. -/
def fnRunUsersSpec : ChangeSpec := { name := "fnRunUsers", fn := fun _ => fun
  | [d] => { results := [.lit (.bool true)], args := [d] }
  | _ => none }
def fnRunUsersRow : OpenClaim := { program := "ytnbggmmghopphaagreatdoor", sum := "ca04e8aca069628c4e506fb64ac69277ac94af7e3939d24837951aad94c8788d", func := "loop.example/mailhost/laws.FnRunUsers", spec := "fnRunUsers", inPlace := ["internal/bytealg.CountString", "internal/bytealg.IndexByteString", "internal/bytealg.IndexString", "internal/abi.NoEscape"], unfollowed := true, recurses := true, named := ["unicode/utf8.first", "unicode/utf8.acceptRanges", "internal/bytealg.MaxLen"], apart := false, laid := [("unicode/utf8.acceptRanges", laid_unicode_utf8_acceptRanges), ("unicode/utf8.first", laid_unicode_utf8_first)] }
def FnRunUsersSaid : Prop := fnRunUsersRow.holds Tryz.pinned (OpenSpec.ofChange fnRunUsersSpec)

/-- ITS FALSE NEIGHBOUR: 'it returns false'. Refute it at one input. -/
def fnRunUsersWrong : ChangeSpec := { name := "fnRunUsers", fn := fun _ => fun
  | [d] => { results := [.lit (.bool false)], args := [d] }
  | _ => none }
def FnRunUsersWrongFalsely : Prop := fnRunUsersRow.holds Tryz.pinned (OpenSpec.ofChange fnRunUsersWrong)

/-- 'laws.FnExactSubmissionRun': WHATEVER THE INPUT: true; the input reads as it did. -/
def fnExactSubmissionRunSpec : ChangeSpec := { name := "fnExactSubmissionRun", fn := fun _ => fun
  | [d1, d2, d3] => { results := [.lit (.bool true)], args := [d1, d2, d3] }
  | _ => none }
def fnExactSubmissionRunRow : OpenClaim := { program := "ytnbggmmghopphaagreatdoor", sum := "ca04e8aca069628c4e506fb64ac69277ac94af7e3939d24837951aad94c8788d", func := "loop.example/mailhost/laws.FnExactSubmissionRun", spec := "fnExactSubmissionRun", inPlace := ["internal/bytealg.CountString", "internal/bytealg.IndexByteString", "internal/bytealg.IndexString", "internal/abi.NoEscape"], unfollowed := true, recurses := true, named := ["unicode/utf8.first", "unicode/utf8.acceptRanges", "internal/bytealg.MaxLen"], apart := false, laid := [("unicode/utf8.acceptRanges", laid_unicode_utf8_acceptRanges), ("unicode/utf8.first", laid_unicode_utf8_first)] }
def FnExactSubmissionRunSaid : Prop := fnExactSubmissionRunRow.holds Tryz.pinned (OpenSpec.ofChange fnExactSubmissionRunSpec)

/-- ITS FALSE NEIGHBOUR: 'it returns false'. Refute it at one input. -/
def fnExactSubmissionRunWrong : ChangeSpec := { name := "fnExactSubmissionRun", fn := fun _ => fun
  | [d1, d2, d3] => { results := [.lit (.bool false)], args := [d1, d2, d3] }
  | _ => none }
def FnExactSubmissionRunWrongFalsely : Prop := fnExactSubmissionRunRow.holds Tryz.pinned (OpenSpec.ofChange fnExactSubmissionRunWrong)

/-- 'laws.FnDot': WHATEVER THE INPUT: true; the input reads as it did. -/
def fnDotSpec : ChangeSpec := { name := "fnDot", fn := fun _ => fun
  | [d] => { results := [.lit (.bool true)], args := [d] }
  | _ => none }
def fnDotRow : OpenClaim := { program := "ytnbggmmghopphaagreatdoor", sum := "ca04e8aca069628c4e506fb64ac69277ac94af7e3939d24837951aad94c8788d", func := "loop.example/mailhost/laws.FnDot", spec := "fnDot", inPlace := ["internal/bytealg.CountString", "internal/bytealg.IndexByteString", "internal/bytealg.IndexString", "internal/abi.NoEscape"], unfollowed := true, recurses := true, named := ["unicode/utf8.first", "unicode/utf8.acceptRanges", "internal/bytealg.MaxLen"], apart := false, laid := [("unicode/utf8.acceptRanges", laid_unicode_utf8_acceptRanges), ("unicode/utf8.first", laid_unicode_utf8_first)] }
def FnDotSaid : Prop := fnDotRow.holds Tryz.pinned (OpenSpec.ofChange fnDotSpec)

/-- ITS FALSE NEIGHBOUR: 'it returns false'. Refute it at one input. -/
def fnDotWrong : ChangeSpec := { name := "fnDot", fn := fun _ => fun
  | [d] => { results := [.lit (.bool false)], args := [d] }
  | _ => none }
def FnDotWrongFalsely : Prop := fnDotRow.holds Tryz.pinned (OpenSpec.ofChange fnDotWrong)

/-- 'laws.FnDotLine': WHATEVER THE INPUT: true; the input reads as it did. -/
def fnDotLineSpec : ChangeSpec := { name := "fnDotLine", fn := fun _ => fun
  | [d] => { results := [.lit (.bool true)], args := [d] }
  | _ => none }
def fnDotLineRow : OpenClaim := { program := "ytnbggmmghopphaagreatdoor", sum := "ca04e8aca069628c4e506fb64ac69277ac94af7e3939d24837951aad94c8788d", func := "loop.example/mailhost/laws.FnDotLine", spec := "fnDotLine", inPlace := ["internal/bytealg.CountString", "internal/bytealg.IndexByteString", "internal/bytealg.IndexString", "internal/abi.NoEscape"], unfollowed := true, recurses := true, named := ["unicode/utf8.first", "unicode/utf8.acceptRanges", "internal/bytealg.MaxLen"], apart := false, laid := [("unicode/utf8.acceptRanges", laid_unicode_utf8_acceptRanges), ("unicode/utf8.first", laid_unicode_utf8_first)] }
def FnDotLineSaid : Prop := fnDotLineRow.holds Tryz.pinned (OpenSpec.ofChange fnDotLineSpec)

/-- ITS FALSE NEIGHBOUR: 'it returns false'. Refute it at one input. -/
def fnDotLineWrong : ChangeSpec := { name := "fnDotLine", fn := fun _ => fun
  | [d] => { results := [.lit (.bool false)], args := [d] }
  | _ => none }
def FnDotLineWrongFalsely : Prop := fnDotLineRow.holds Tryz.pinned (OpenSpec.ofChange fnDotLineWrong)

/-- 'laws.FnFrom': WHATEVER THE INPUT: true; the input reads as it did. -/
def fnFromSpec : ChangeSpec := { name := "fnFrom", fn := fun _ => fun
  | [d] => { results := [.lit (.bool true)], args := [d] }
  | _ => none }
def fnFromRow : OpenClaim := { program := "ytnbggmmghopphaagreatdoor", sum := "ca04e8aca069628c4e506fb64ac69277ac94af7e3939d24837951aad94c8788d", func := "loop.example/mailhost/laws.FnFrom", spec := "fnFrom", inPlace := ["internal/bytealg.CountString", "internal/bytealg.IndexByteString", "internal/bytealg.IndexString", "internal/abi.NoEscape"], unfollowed := true, recurses := true, named := ["unicode/utf8.first", "unicode/utf8.acceptRanges", "internal/bytealg.MaxLen"], apart := false, laid := [("unicode/utf8.acceptRanges", laid_unicode_utf8_acceptRanges), ("unicode/utf8.first", laid_unicode_utf8_first)] }
def FnFromSaid : Prop := fnFromRow.holds Tryz.pinned (OpenSpec.ofChange fnFromSpec)

/-- ITS FALSE NEIGHBOUR: 'it returns false'. Refute it at one input. -/
def fnFromWrong : ChangeSpec := { name := "fnFrom", fn := fun _ => fun
  | [d] => { results := [.lit (.bool false)], args := [d] }
  | _ => none }
def FnFromWrongFalsely : Prop := fnFromRow.holds Tryz.pinned (OpenSpec.ofChange fnFromWrong)

/-- 'laws.FnLineValid': WHATEVER THE INPUT: true; the input reads as it did. -/
def fnLineValidSpec : ChangeSpec := { name := "fnLineValid", fn := fun _ => fun
  | [d] => { results := [.lit (.bool true)], args := [d] }
  | _ => none }
def fnLineValidRow : OpenClaim := { program := "ytnbggmmghopphaagreatdoor", sum := "ca04e8aca069628c4e506fb64ac69277ac94af7e3939d24837951aad94c8788d", func := "loop.example/mailhost/laws.FnLineValid", spec := "fnLineValid", inPlace := ["internal/bytealg.CountString", "internal/bytealg.IndexByteString", "internal/bytealg.IndexString", "internal/abi.NoEscape"], unfollowed := true, recurses := true, named := ["unicode/utf8.first", "unicode/utf8.acceptRanges", "internal/bytealg.MaxLen"], apart := false, laid := [("unicode/utf8.acceptRanges", laid_unicode_utf8_acceptRanges), ("unicode/utf8.first", laid_unicode_utf8_first)] }
def FnLineValidSaid : Prop := fnLineValidRow.holds Tryz.pinned (OpenSpec.ofChange fnLineValidSpec)

/-- ITS FALSE NEIGHBOUR: 'it returns false'. Refute it at one input. -/
def fnLineValidWrong : ChangeSpec := { name := "fnLineValid", fn := fun _ => fun
  | [d] => { results := [.lit (.bool false)], args := [d] }
  | _ => none }
def FnLineValidWrongFalsely : Prop := fnLineValidRow.holds Tryz.pinned (OpenSpec.ofChange fnLineValidWrong)

/-- 'laws.FnRcptEarly': WHATEVER THE INPUT: true; the input reads as it did. -/
def fnRcptEarlySpec : ChangeSpec := { name := "fnRcptEarly", fn := fun _ => fun
  | [d] => { results := [.lit (.bool true)], args := [d] }
  | _ => none }
def fnRcptEarlyRow : OpenClaim := { program := "ytnbggmmghopphaagreatdoor", sum := "ca04e8aca069628c4e506fb64ac69277ac94af7e3939d24837951aad94c8788d", func := "loop.example/mailhost/laws.FnRcptEarly", spec := "fnRcptEarly", inPlace := ["internal/bytealg.CountString", "internal/bytealg.IndexByteString", "internal/bytealg.IndexString", "internal/abi.NoEscape"], unfollowed := true, recurses := true, named := ["unicode/utf8.first", "unicode/utf8.acceptRanges", "internal/bytealg.MaxLen"], apart := false, laid := [("unicode/utf8.acceptRanges", laid_unicode_utf8_acceptRanges), ("unicode/utf8.first", laid_unicode_utf8_first)] }
def FnRcptEarlySaid : Prop := fnRcptEarlyRow.holds Tryz.pinned (OpenSpec.ofChange fnRcptEarlySpec)

/-- ITS FALSE NEIGHBOUR: 'it returns false'. Refute it at one input. -/
def fnRcptEarlyWrong : ChangeSpec := { name := "fnRcptEarly", fn := fun _ => fun
  | [d] => { results := [.lit (.bool false)], args := [d] }
  | _ => none }
def FnRcptEarlyWrongFalsely : Prop := fnRcptEarlyRow.holds Tryz.pinned (OpenSpec.ofChange fnRcptEarlyWrong)

/-- 'laws.FnText': WHATEVER THE INPUT: true; the input reads as it did. -/
def fnTextSpec : ChangeSpec := { name := "fnText", fn := fun _ => fun
  | [d] => { results := [.lit (.bool true)], args := [d] }
  | _ => none }
def fnTextRow : OpenClaim := { program := "ytnbggmmghopphaagreatdoor", sum := "ca04e8aca069628c4e506fb64ac69277ac94af7e3939d24837951aad94c8788d", func := "loop.example/mailhost/laws.FnText", spec := "fnText", inPlace := ["internal/bytealg.CountString", "internal/bytealg.IndexByteString", "internal/bytealg.IndexString", "internal/abi.NoEscape"], unfollowed := true, recurses := true, named := ["unicode/utf8.first", "unicode/utf8.acceptRanges", "internal/bytealg.MaxLen"], apart := false, laid := [("unicode/utf8.acceptRanges", laid_unicode_utf8_acceptRanges), ("unicode/utf8.first", laid_unicode_utf8_first)] }
def FnTextSaid : Prop := fnTextRow.holds Tryz.pinned (OpenSpec.ofChange fnTextSpec)

/-- ITS FALSE NEIGHBOUR: 'it returns false'. Refute it at one input. -/
def fnTextWrong : ChangeSpec := { name := "fnText", fn := fun _ => fun
  | [d] => { results := [.lit (.bool false)], args := [d] }
  | _ => none }
def FnTextWrongFalsely : Prop := fnTextRow.holds Tryz.pinned (OpenSpec.ofChange fnTextWrong)

/-- 'laws.FnAuthWrong': WHATEVER THE INPUT: true; the input reads as it did. -/
def fnAuthWrongSpec : ChangeSpec := { name := "fnAuthWrong", fn := fun _ => fun
  | [d1, d2] => { results := [.lit (.bool true)], args := [d1, d2] }
  | _ => none }
def fnAuthWrongRow : OpenClaim := { program := "ytnbggmmghopphaagreatdoor", sum := "ca04e8aca069628c4e506fb64ac69277ac94af7e3939d24837951aad94c8788d", func := "loop.example/mailhost/laws.FnAuthWrong", spec := "fnAuthWrong", inPlace := ["internal/bytealg.CountString", "internal/bytealg.IndexByteString", "internal/bytealg.IndexString", "internal/abi.NoEscape"], unfollowed := true, recurses := true, named := ["unicode/utf8.first", "unicode/utf8.acceptRanges", "internal/bytealg.MaxLen"], apart := false, laid := [("unicode/utf8.acceptRanges", laid_unicode_utf8_acceptRanges), ("unicode/utf8.first", laid_unicode_utf8_first)] }
def FnAuthWrongSaid : Prop := fnAuthWrongRow.holds Tryz.pinned (OpenSpec.ofChange fnAuthWrongSpec)

/-- ITS FALSE NEIGHBOUR: 'it returns false'. Refute it at one input. -/
def fnAuthWrongWrong : ChangeSpec := { name := "fnAuthWrong", fn := fun _ => fun
  | [d1, d2] => { results := [.lit (.bool false)], args := [d1, d2] }
  | _ => none }
def FnAuthWrongWrongFalsely : Prop := fnAuthWrongRow.holds Tryz.pinned (OpenSpec.ofChange fnAuthWrongWrong)

/-- 'laws.FnRcpt': WHATEVER THE INPUT: true; the input reads as it did. -/
def fnRcptSpec : ChangeSpec := { name := "fnRcpt", fn := fun _ => fun
  | [d1, d2] => { results := [.lit (.bool true)], args := [d1, d2] }
  | _ => none }
def fnRcptRow : OpenClaim := { program := "ytnbggmmghopphaagreatdoor", sum := "ca04e8aca069628c4e506fb64ac69277ac94af7e3939d24837951aad94c8788d", func := "loop.example/mailhost/laws.FnRcpt", spec := "fnRcpt", inPlace := ["internal/bytealg.CountString", "internal/bytealg.IndexByteString", "internal/bytealg.IndexString", "internal/abi.NoEscape"], unfollowed := true, recurses := true, named := ["unicode/utf8.first", "unicode/utf8.acceptRanges", "internal/bytealg.MaxLen"], apart := false, laid := [("unicode/utf8.acceptRanges", laid_unicode_utf8_acceptRanges), ("unicode/utf8.first", laid_unicode_utf8_first)] }
def FnRcptSaid : Prop := fnRcptRow.holds Tryz.pinned (OpenSpec.ofChange fnRcptSpec)

/-- ITS FALSE NEIGHBOUR: 'it returns false'. Refute it at one input. -/
def fnRcptWrong : ChangeSpec := { name := "fnRcpt", fn := fun _ => fun
  | [d1, d2] => { results := [.lit (.bool false)], args := [d1, d2] }
  | _ => none }
def FnRcptWrongFalsely : Prop := fnRcptRow.holds Tryz.pinned (OpenSpec.ofChange fnRcptWrong)

/-- 'laws.FnRcptUnknown': WHATEVER THE INPUT: true; the input reads as it did. -/
def fnRcptUnknownSpec : ChangeSpec := { name := "fnRcptUnknown", fn := fun _ => fun
  | [d] => { results := [.lit (.bool true)], args := [d] }
  | _ => none }
def fnRcptUnknownRow : OpenClaim := { program := "ytnbggmmghopphaagreatdoor", sum := "ca04e8aca069628c4e506fb64ac69277ac94af7e3939d24837951aad94c8788d", func := "loop.example/mailhost/laws.FnRcptUnknown", spec := "fnRcptUnknown", inPlace := ["internal/bytealg.CountString", "internal/bytealg.IndexByteString", "internal/bytealg.IndexString", "internal/abi.NoEscape"], unfollowed := true, recurses := true, named := ["unicode/utf8.first", "unicode/utf8.acceptRanges", "internal/bytealg.MaxLen"], apart := false, laid := [("unicode/utf8.acceptRanges", laid_unicode_utf8_acceptRanges), ("unicode/utf8.first", laid_unicode_utf8_first)] }
def FnRcptUnknownSaid : Prop := fnRcptUnknownRow.holds Tryz.pinned (OpenSpec.ofChange fnRcptUnknownSpec)

/-- ITS FALSE NEIGHBOUR: 'it returns false'. Refute it at one input. -/
def fnRcptUnknownWrong : ChangeSpec := { name := "fnRcptUnknown", fn := fun _ => fun
  | [d] => { results := [.lit (.bool false)], args := [d] }
  | _ => none }
def FnRcptUnknownWrongFalsely : Prop := fnRcptUnknownRow.holds Tryz.pinned (OpenSpec.ofChange fnRcptUnknownWrong)

/-- 'laws.FnExactSubmissionLine': WHATEVER THE INPUT: true; the input reads as it did. -/
def fnExactSubmissionLineSpec : ChangeSpec := { name := "fnExactSubmissionLine", fn := fun _ => fun
  | [d1, d2, d3, d4] => { results := [.lit (.bool true)], args := [d1, d2, d3, d4] }
  | _ => none }
def fnExactSubmissionLineRow : OpenClaim := { program := "ytnbggmmghopphaagreatdoor", sum := "ca04e8aca069628c4e506fb64ac69277ac94af7e3939d24837951aad94c8788d", func := "loop.example/mailhost/laws.FnExactSubmissionLine", spec := "fnExactSubmissionLine", inPlace := ["internal/bytealg.CountString", "internal/bytealg.IndexByteString", "internal/bytealg.IndexString", "internal/abi.NoEscape"], unfollowed := true, recurses := true, named := ["unicode/utf8.first", "unicode/utf8.acceptRanges", "internal/bytealg.MaxLen"], apart := false, laid := [("unicode/utf8.acceptRanges", laid_unicode_utf8_acceptRanges), ("unicode/utf8.first", laid_unicode_utf8_first)] }
def FnExactSubmissionLineSaid : Prop := fnExactSubmissionLineRow.holds Tryz.pinned (OpenSpec.ofChange fnExactSubmissionLineSpec)

/-- ITS FALSE NEIGHBOUR: 'it returns false'. Refute it at one input. -/
def fnExactSubmissionLineWrong : ChangeSpec := { name := "fnExactSubmissionLine", fn := fun _ => fun
  | [d1, d2, d3, d4] => { results := [.lit (.bool false)], args := [d1, d2, d3, d4] }
  | _ => none }
def FnExactSubmissionLineWrongFalsely : Prop := fnExactSubmissionLineRow.holds Tryz.pinned (OpenSpec.ofChange fnExactSubmissionLineWrong)

/-- 'laws.FnRun': WHATEVER THE INPUT: true; the input reads as it did. -/
def fnRunSpec : ChangeSpec := { name := "fnRun", fn := fun _ => fun
  | [d] => { results := [.lit (.bool true)], args := [d] }
  | _ => none }
def fnRunRow : OpenClaim := { program := "ytnbggmmghopphaagreatdoor", sum := "ca04e8aca069628c4e506fb64ac69277ac94af7e3939d24837951aad94c8788d", func := "loop.example/mailhost/laws.FnRun", spec := "fnRun", inPlace := ["internal/bytealg.CountString", "internal/bytealg.IndexByteString", "internal/bytealg.IndexString", "internal/abi.NoEscape"], unfollowed := true, recurses := true, named := ["unicode/utf8.first", "unicode/utf8.acceptRanges", "internal/bytealg.MaxLen"], apart := false, laid := [("unicode/utf8.acceptRanges", laid_unicode_utf8_acceptRanges), ("unicode/utf8.first", laid_unicode_utf8_first)] }
def FnRunSaid : Prop := fnRunRow.holds Tryz.pinned (OpenSpec.ofChange fnRunSpec)

/-- ITS FALSE NEIGHBOUR: 'it returns false'. Refute it at one input. -/
def fnRunWrong : ChangeSpec := { name := "fnRun", fn := fun _ => fun
  | [d] => { results := [.lit (.bool false)], args := [d] }
  | _ => none }
def FnRunWrongFalsely : Prop := fnRunRow.holds Tryz.pinned (OpenSpec.ofChange fnRunWrong)

/-- 'laws.FnRunPart': WHATEVER THE INPUT: true; the input reads as it did. -/
def fnRunPartSpec : ChangeSpec := { name := "fnRunPart", fn := fun _ => fun
  | [d1, d2] => { results := [.lit (.bool true)], args := [d1, d2] }
  | _ => none }
def fnRunPartRow : OpenClaim := { program := "ytnbggmmghopphaagreatdoor", sum := "ca04e8aca069628c4e506fb64ac69277ac94af7e3939d24837951aad94c8788d", func := "loop.example/mailhost/laws.FnRunPart", spec := "fnRunPart", inPlace := ["internal/bytealg.CountString", "internal/bytealg.IndexByteString", "internal/bytealg.IndexString", "internal/abi.NoEscape"], unfollowed := true, recurses := true, named := ["unicode/utf8.first", "unicode/utf8.acceptRanges", "internal/bytealg.MaxLen"], apart := false, laid := [("unicode/utf8.acceptRanges", laid_unicode_utf8_acceptRanges), ("unicode/utf8.first", laid_unicode_utf8_first)] }
def FnRunPartSaid : Prop := fnRunPartRow.holds Tryz.pinned (OpenSpec.ofChange fnRunPartSpec)

/-- ITS FALSE NEIGHBOUR: 'it returns false'. Refute it at one input. -/
def fnRunPartWrong : ChangeSpec := { name := "fnRunPart", fn := fun _ => fun
  | [d1, d2] => { results := [.lit (.bool false)], args := [d1, d2] }
  | _ => none }
def FnRunPartWrongFalsely : Prop := fnRunPartRow.holds Tryz.pinned (OpenSpec.ofChange fnRunPartWrong)

/- THE SECOND FORM. 'bulk': how many values and letters a reading holds, each counted each time it is reached (what is shared counts as often as it is met; a slice's spare places count too). A statement '..UptoSaid' is the law's where the arguments, and the package variables that the reading takes, are together of bulk at most 1048576: NARROWER than '..Said'. Prove '..Said' where nothing that the law and all that it calls make is longer than what came in: it says more and counts as full. Else prove '..UptoSaid'. A law counts once. -/
mutual
def uptoBulk {H : Type} : DataW H → Nat
  | .lit (.string bytes) => bytes.length + 1
  | .lit _ => 1
  | .nil => 1
  | .ptr d => uptoBulk d + 1
  | .slice elems spare => uptoBulkAll elems + uptoBulkAll spare + 1
  | .agg parts => uptoBulkAll parts + 1
  | .iface _ d => uptoBulk d + 1
  | .map entries => uptoBulkEntries entries + 1
  | .held _ => 1
def uptoBulkAll {H : Type} : List (DataW H) → Nat
  | [] => 0
  | d :: r => uptoBulk d + uptoBulkAll r
def uptoBulkEntries {H : Type} : List (Lit × DataW H) → Nat
  | [] => 0
  | x :: r => uptoBulkEntry x + uptoBulkEntries r
def uptoBulkEntry {H : Type} : Lit × DataW H → Nat
  | (.string bytes, d) => bytes.length + uptoBulk d + 1
  | (_, d) => uptoBulk d + 1
 end
def uptoSmall : (H : Type) → List (DataW H) → Bool := fun _ ds => decide (uptoBulkAll ds ≤ 1048576)
def OpenSpec.upto (s : _root_.Go.ChangeSpec) : _root_.Go.OpenSpec := { _root_.Go.OpenSpec.ofChange s with cond := some uptoSmall }

/-- 'laws.FnRunStep', WHERE WHAT IT READS IS OF BULK AT MOST 1048576: true; the input reads as it did. -/
def fnRunStepUptoRow : OpenClaim := { program := "ytnbggmmghopphaagreatdoor", sum := "ca04e8aca069628c4e506fb64ac69277ac94af7e3939d24837951aad94c8788d", func := "loop.example/mailhost/laws.FnRunStep", spec := "fnRunStep", inPlace := ["internal/bytealg.CountString", "internal/bytealg.IndexByteString", "internal/bytealg.IndexString", "internal/abi.NoEscape"], unfollowed := true, recurses := true, named := ["unicode/utf8.first", "unicode/utf8.acceptRanges", "internal/bytealg.MaxLen"], apart := false, laid := [("unicode/utf8.acceptRanges", laid_unicode_utf8_acceptRanges), ("unicode/utf8.first", laid_unicode_utf8_first)], narrowed := true }
def FnRunStepUptoSaid : Prop := fnRunStepUptoRow.holds Tryz.pinned (OpenSpec.upto fnRunStepSpec)

/-- 'laws.FnRunUsers', WHERE WHAT IT READS IS OF BULK AT MOST 1048576: true; the input reads as it did. -/
def fnRunUsersUptoRow : OpenClaim := { program := "ytnbggmmghopphaagreatdoor", sum := "ca04e8aca069628c4e506fb64ac69277ac94af7e3939d24837951aad94c8788d", func := "loop.example/mailhost/laws.FnRunUsers", spec := "fnRunUsers", inPlace := ["internal/bytealg.CountString", "internal/bytealg.IndexByteString", "internal/bytealg.IndexString", "internal/abi.NoEscape"], unfollowed := true, recurses := true, named := ["unicode/utf8.first", "unicode/utf8.acceptRanges", "internal/bytealg.MaxLen"], apart := false, laid := [("unicode/utf8.acceptRanges", laid_unicode_utf8_acceptRanges), ("unicode/utf8.first", laid_unicode_utf8_first)], narrowed := true }
def FnRunUsersUptoSaid : Prop := fnRunUsersUptoRow.holds Tryz.pinned (OpenSpec.upto fnRunUsersSpec)

/-- 'laws.FnExactSubmissionRun', WHERE WHAT IT READS IS OF BULK AT MOST 1048576: true; the input reads as it did. -/
def fnExactSubmissionRunUptoRow : OpenClaim := { program := "ytnbggmmghopphaagreatdoor", sum := "ca04e8aca069628c4e506fb64ac69277ac94af7e3939d24837951aad94c8788d", func := "loop.example/mailhost/laws.FnExactSubmissionRun", spec := "fnExactSubmissionRun", inPlace := ["internal/bytealg.CountString", "internal/bytealg.IndexByteString", "internal/bytealg.IndexString", "internal/abi.NoEscape"], unfollowed := true, recurses := true, named := ["unicode/utf8.first", "unicode/utf8.acceptRanges", "internal/bytealg.MaxLen"], apart := false, laid := [("unicode/utf8.acceptRanges", laid_unicode_utf8_acceptRanges), ("unicode/utf8.first", laid_unicode_utf8_first)], narrowed := true }
def FnExactSubmissionRunUptoSaid : Prop := fnExactSubmissionRunUptoRow.holds Tryz.pinned (OpenSpec.upto fnExactSubmissionRunSpec)

/-- 'laws.FnDot', WHERE WHAT IT READS IS OF BULK AT MOST 1048576: true; the input reads as it did. -/
def fnDotUptoRow : OpenClaim := { program := "ytnbggmmghopphaagreatdoor", sum := "ca04e8aca069628c4e506fb64ac69277ac94af7e3939d24837951aad94c8788d", func := "loop.example/mailhost/laws.FnDot", spec := "fnDot", inPlace := ["internal/bytealg.CountString", "internal/bytealg.IndexByteString", "internal/bytealg.IndexString", "internal/abi.NoEscape"], unfollowed := true, recurses := true, named := ["unicode/utf8.first", "unicode/utf8.acceptRanges", "internal/bytealg.MaxLen"], apart := false, laid := [("unicode/utf8.acceptRanges", laid_unicode_utf8_acceptRanges), ("unicode/utf8.first", laid_unicode_utf8_first)], narrowed := true }
def FnDotUptoSaid : Prop := fnDotUptoRow.holds Tryz.pinned (OpenSpec.upto fnDotSpec)

/-- 'laws.FnDotLine', WHERE WHAT IT READS IS OF BULK AT MOST 1048576: true; the input reads as it did. -/
def fnDotLineUptoRow : OpenClaim := { program := "ytnbggmmghopphaagreatdoor", sum := "ca04e8aca069628c4e506fb64ac69277ac94af7e3939d24837951aad94c8788d", func := "loop.example/mailhost/laws.FnDotLine", spec := "fnDotLine", inPlace := ["internal/bytealg.CountString", "internal/bytealg.IndexByteString", "internal/bytealg.IndexString", "internal/abi.NoEscape"], unfollowed := true, recurses := true, named := ["unicode/utf8.first", "unicode/utf8.acceptRanges", "internal/bytealg.MaxLen"], apart := false, laid := [("unicode/utf8.acceptRanges", laid_unicode_utf8_acceptRanges), ("unicode/utf8.first", laid_unicode_utf8_first)], narrowed := true }
def FnDotLineUptoSaid : Prop := fnDotLineUptoRow.holds Tryz.pinned (OpenSpec.upto fnDotLineSpec)

/-- 'laws.FnFrom', WHERE WHAT IT READS IS OF BULK AT MOST 1048576: true; the input reads as it did. -/
def fnFromUptoRow : OpenClaim := { program := "ytnbggmmghopphaagreatdoor", sum := "ca04e8aca069628c4e506fb64ac69277ac94af7e3939d24837951aad94c8788d", func := "loop.example/mailhost/laws.FnFrom", spec := "fnFrom", inPlace := ["internal/bytealg.CountString", "internal/bytealg.IndexByteString", "internal/bytealg.IndexString", "internal/abi.NoEscape"], unfollowed := true, recurses := true, named := ["unicode/utf8.first", "unicode/utf8.acceptRanges", "internal/bytealg.MaxLen"], apart := false, laid := [("unicode/utf8.acceptRanges", laid_unicode_utf8_acceptRanges), ("unicode/utf8.first", laid_unicode_utf8_first)], narrowed := true }
def FnFromUptoSaid : Prop := fnFromUptoRow.holds Tryz.pinned (OpenSpec.upto fnFromSpec)

/-- 'laws.FnLineValid', WHERE WHAT IT READS IS OF BULK AT MOST 1048576: true; the input reads as it did. -/
def fnLineValidUptoRow : OpenClaim := { program := "ytnbggmmghopphaagreatdoor", sum := "ca04e8aca069628c4e506fb64ac69277ac94af7e3939d24837951aad94c8788d", func := "loop.example/mailhost/laws.FnLineValid", spec := "fnLineValid", inPlace := ["internal/bytealg.CountString", "internal/bytealg.IndexByteString", "internal/bytealg.IndexString", "internal/abi.NoEscape"], unfollowed := true, recurses := true, named := ["unicode/utf8.first", "unicode/utf8.acceptRanges", "internal/bytealg.MaxLen"], apart := false, laid := [("unicode/utf8.acceptRanges", laid_unicode_utf8_acceptRanges), ("unicode/utf8.first", laid_unicode_utf8_first)], narrowed := true }
def FnLineValidUptoSaid : Prop := fnLineValidUptoRow.holds Tryz.pinned (OpenSpec.upto fnLineValidSpec)

/-- 'laws.FnRcptEarly', WHERE WHAT IT READS IS OF BULK AT MOST 1048576: true; the input reads as it did. -/
def fnRcptEarlyUptoRow : OpenClaim := { program := "ytnbggmmghopphaagreatdoor", sum := "ca04e8aca069628c4e506fb64ac69277ac94af7e3939d24837951aad94c8788d", func := "loop.example/mailhost/laws.FnRcptEarly", spec := "fnRcptEarly", inPlace := ["internal/bytealg.CountString", "internal/bytealg.IndexByteString", "internal/bytealg.IndexString", "internal/abi.NoEscape"], unfollowed := true, recurses := true, named := ["unicode/utf8.first", "unicode/utf8.acceptRanges", "internal/bytealg.MaxLen"], apart := false, laid := [("unicode/utf8.acceptRanges", laid_unicode_utf8_acceptRanges), ("unicode/utf8.first", laid_unicode_utf8_first)], narrowed := true }
def FnRcptEarlyUptoSaid : Prop := fnRcptEarlyUptoRow.holds Tryz.pinned (OpenSpec.upto fnRcptEarlySpec)

/-- 'laws.FnText', WHERE WHAT IT READS IS OF BULK AT MOST 1048576: true; the input reads as it did. -/
def fnTextUptoRow : OpenClaim := { program := "ytnbggmmghopphaagreatdoor", sum := "ca04e8aca069628c4e506fb64ac69277ac94af7e3939d24837951aad94c8788d", func := "loop.example/mailhost/laws.FnText", spec := "fnText", inPlace := ["internal/bytealg.CountString", "internal/bytealg.IndexByteString", "internal/bytealg.IndexString", "internal/abi.NoEscape"], unfollowed := true, recurses := true, named := ["unicode/utf8.first", "unicode/utf8.acceptRanges", "internal/bytealg.MaxLen"], apart := false, laid := [("unicode/utf8.acceptRanges", laid_unicode_utf8_acceptRanges), ("unicode/utf8.first", laid_unicode_utf8_first)], narrowed := true }
def FnTextUptoSaid : Prop := fnTextUptoRow.holds Tryz.pinned (OpenSpec.upto fnTextSpec)

/-- 'laws.FnAuthWrong', WHERE WHAT IT READS IS OF BULK AT MOST 1048576: true; the input reads as it did. -/
def fnAuthWrongUptoRow : OpenClaim := { program := "ytnbggmmghopphaagreatdoor", sum := "ca04e8aca069628c4e506fb64ac69277ac94af7e3939d24837951aad94c8788d", func := "loop.example/mailhost/laws.FnAuthWrong", spec := "fnAuthWrong", inPlace := ["internal/bytealg.CountString", "internal/bytealg.IndexByteString", "internal/bytealg.IndexString", "internal/abi.NoEscape"], unfollowed := true, recurses := true, named := ["unicode/utf8.first", "unicode/utf8.acceptRanges", "internal/bytealg.MaxLen"], apart := false, laid := [("unicode/utf8.acceptRanges", laid_unicode_utf8_acceptRanges), ("unicode/utf8.first", laid_unicode_utf8_first)], narrowed := true }
def FnAuthWrongUptoSaid : Prop := fnAuthWrongUptoRow.holds Tryz.pinned (OpenSpec.upto fnAuthWrongSpec)

/-- 'laws.FnRcpt', WHERE WHAT IT READS IS OF BULK AT MOST 1048576: true; the input reads as it did. -/
def fnRcptUptoRow : OpenClaim := { program := "ytnbggmmghopphaagreatdoor", sum := "ca04e8aca069628c4e506fb64ac69277ac94af7e3939d24837951aad94c8788d", func := "loop.example/mailhost/laws.FnRcpt", spec := "fnRcpt", inPlace := ["internal/bytealg.CountString", "internal/bytealg.IndexByteString", "internal/bytealg.IndexString", "internal/abi.NoEscape"], unfollowed := true, recurses := true, named := ["unicode/utf8.first", "unicode/utf8.acceptRanges", "internal/bytealg.MaxLen"], apart := false, laid := [("unicode/utf8.acceptRanges", laid_unicode_utf8_acceptRanges), ("unicode/utf8.first", laid_unicode_utf8_first)], narrowed := true }
def FnRcptUptoSaid : Prop := fnRcptUptoRow.holds Tryz.pinned (OpenSpec.upto fnRcptSpec)

/-- 'laws.FnRcptUnknown', WHERE WHAT IT READS IS OF BULK AT MOST 1048576: true; the input reads as it did. -/
def fnRcptUnknownUptoRow : OpenClaim := { program := "ytnbggmmghopphaagreatdoor", sum := "ca04e8aca069628c4e506fb64ac69277ac94af7e3939d24837951aad94c8788d", func := "loop.example/mailhost/laws.FnRcptUnknown", spec := "fnRcptUnknown", inPlace := ["internal/bytealg.CountString", "internal/bytealg.IndexByteString", "internal/bytealg.IndexString", "internal/abi.NoEscape"], unfollowed := true, recurses := true, named := ["unicode/utf8.first", "unicode/utf8.acceptRanges", "internal/bytealg.MaxLen"], apart := false, laid := [("unicode/utf8.acceptRanges", laid_unicode_utf8_acceptRanges), ("unicode/utf8.first", laid_unicode_utf8_first)], narrowed := true }
def FnRcptUnknownUptoSaid : Prop := fnRcptUnknownUptoRow.holds Tryz.pinned (OpenSpec.upto fnRcptUnknownSpec)

/-- 'laws.FnExactSubmissionLine', WHERE WHAT IT READS IS OF BULK AT MOST 1048576: true; the input reads as it did. -/
def fnExactSubmissionLineUptoRow : OpenClaim := { program := "ytnbggmmghopphaagreatdoor", sum := "ca04e8aca069628c4e506fb64ac69277ac94af7e3939d24837951aad94c8788d", func := "loop.example/mailhost/laws.FnExactSubmissionLine", spec := "fnExactSubmissionLine", inPlace := ["internal/bytealg.CountString", "internal/bytealg.IndexByteString", "internal/bytealg.IndexString", "internal/abi.NoEscape"], unfollowed := true, recurses := true, named := ["unicode/utf8.first", "unicode/utf8.acceptRanges", "internal/bytealg.MaxLen"], apart := false, laid := [("unicode/utf8.acceptRanges", laid_unicode_utf8_acceptRanges), ("unicode/utf8.first", laid_unicode_utf8_first)], narrowed := true }
def FnExactSubmissionLineUptoSaid : Prop := fnExactSubmissionLineUptoRow.holds Tryz.pinned (OpenSpec.upto fnExactSubmissionLineSpec)

/-- 'laws.FnRun', WHERE WHAT IT READS IS OF BULK AT MOST 1048576: true; the input reads as it did. -/
def fnRunUptoRow : OpenClaim := { program := "ytnbggmmghopphaagreatdoor", sum := "ca04e8aca069628c4e506fb64ac69277ac94af7e3939d24837951aad94c8788d", func := "loop.example/mailhost/laws.FnRun", spec := "fnRun", inPlace := ["internal/bytealg.CountString", "internal/bytealg.IndexByteString", "internal/bytealg.IndexString", "internal/abi.NoEscape"], unfollowed := true, recurses := true, named := ["unicode/utf8.first", "unicode/utf8.acceptRanges", "internal/bytealg.MaxLen"], apart := false, laid := [("unicode/utf8.acceptRanges", laid_unicode_utf8_acceptRanges), ("unicode/utf8.first", laid_unicode_utf8_first)], narrowed := true }
def FnRunUptoSaid : Prop := fnRunUptoRow.holds Tryz.pinned (OpenSpec.upto fnRunSpec)

/-- 'laws.FnRunPart', WHERE WHAT IT READS IS OF BULK AT MOST 1048576: true; the input reads as it did. -/
def fnRunPartUptoRow : OpenClaim := { program := "ytnbggmmghopphaagreatdoor", sum := "ca04e8aca069628c4e506fb64ac69277ac94af7e3939d24837951aad94c8788d", func := "loop.example/mailhost/laws.FnRunPart", spec := "fnRunPart", inPlace := ["internal/bytealg.CountString", "internal/bytealg.IndexByteString", "internal/bytealg.IndexString", "internal/abi.NoEscape"], unfollowed := true, recurses := true, named := ["unicode/utf8.first", "unicode/utf8.acceptRanges", "internal/bytealg.MaxLen"], apart := false, laid := [("unicode/utf8.acceptRanges", laid_unicode_utf8_acceptRanges), ("unicode/utf8.first", laid_unicode_utf8_first)], narrowed := true }
def FnRunPartUptoSaid : Prop := fnRunPartUptoRow.holds Tryz.pinned (OpenSpec.upto fnRunPartSpec)

end Rows
end Go.Proofs.YtnbggmmghopphaaGreatDoor

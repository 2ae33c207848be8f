/-
  No cell of these rows narrows 'for every input' (looked for: loops, veiled, ifaces, maps, wideKeys, modest, calm, conditions, laid).
  DERIVED. THE GIVEN ROWS OF THIS SEAT. 12 by the template 'for every input the law returns true; each argument reads behind the call as it read before'; 0 by the template 'total and deterministic' (their statements: YtpolpopkiegjkaaTotals.lean).
  GIVEN WITH THE SEED: the statements are not yours to turn. If you find one false, say at which input.
  Laid BY PROGRAM, IN A SANDBOX (cutbox-rows.mjs): the forced cells as the released guide's own fill.sh prints them over the translation b7d2cd7b65bb09be… (all of the seat's roots in one cut). By AI agents, Wed Nov 11 2026. No macro, syntax, notation, axiom, sorry.
-/
import Derived.Test.YtpolpopkiegjkaaChecked
import GoSem.Claim
import GoSem.ClaimJoined
import GoSem.ClaimMapViews
import Derived.JoinedTies
import Derived.KernelRfl
namespace Go.Proofs.Ytpolpopkiegjkaa
/- THE CELL 'sum', in the pinned program and in every row, IS THE sha256 OF THE DUMP (.gsa) THAT YtpolpopkiegjkaaProg.lean LOADS. Nothing in Lean hashes anything: it is a label: what it is worth is what the hold of that sum in a sandbox is worth. -/
noncomputable def Try.pinned : Pinned := { name := "ytpolpopkiegjkaa", sum := "b7d2cd7b65bb09beccf14303c7bdfaf33ab8bc0a2a5feba2d543401e773f24d8", checked := Try.checked }
namespace Rows
def none {H : Type} : Left H := { results := [], args := [] }

/-- 'laws.FnAclPart': WHATEVER THE INPUT: true; the input reads as it did. -/
def fnAclPartSpec : ChangeSpec := { name := "fnAclPart", fn := fun _ => fun
  | [d1, d2] => { results := [.lit (.bool true)], args := [d1, d2] }
  | _ => none }
def fnAclPartRow : OpenClaim := { program := "ytpolpopkiegjkaa", sum := "b7d2cd7b65bb09beccf14303c7bdfaf33ab8bc0a2a5feba2d543401e773f24d8", func := "loop.example/mailhost/laws.FnAclPart", spec := "fnAclPart", apart := false }
def FnAclPartSaid : Prop := fnAclPartRow.holds Try.pinned (OpenSpec.ofChange fnAclPartSpec)

/-- ITS FALSE NEIGHBOUR: 'it returns false'. Refute it at one input. -/
def fnAclPartWrong : ChangeSpec := { name := "fnAclPart", fn := fun _ => fun
  | [d1, d2] => { results := [.lit (.bool false)], args := [d1, d2] }
  | _ => none }
def FnAclPartWrongFalsely : Prop := fnAclPartRow.holds Try.pinned (OpenSpec.ofChange fnAclPartWrong)

/-- 'laws.FnExactLetterValid': WHATEVER THE INPUT: true; the input reads as it did. -/
def fnExactLetterValidSpec : ChangeSpec := { name := "fnExactLetterValid", fn := fun _ => fun
  | [d] => { results := [.lit (.bool true)], args := [d] }
  | _ => none }
def fnExactLetterValidRow : OpenClaim := { program := "ytpolpopkiegjkaa", sum := "b7d2cd7b65bb09beccf14303c7bdfaf33ab8bc0a2a5feba2d543401e773f24d8", func := "loop.example/mailhost/laws.FnExactLetterValid", spec := "fnExactLetterValid", apart := false }
def FnExactLetterValidSaid : Prop := fnExactLetterValidRow.holds Try.pinned (OpenSpec.ofChange fnExactLetterValidSpec)

/-- ITS FALSE NEIGHBOUR: 'it returns false'. Refute it at one input. -/
def fnExactLetterValidWrong : ChangeSpec := { name := "fnExactLetterValid", fn := fun _ => fun
  | [d] => { results := [.lit (.bool false)], args := [d] }
  | _ => none }
def FnExactLetterValidWrongFalsely : Prop := fnExactLetterValidRow.holds Try.pinned (OpenSpec.ofChange fnExactLetterValidWrong)

/-- 'laws.FnExactUsersFind': WHATEVER THE INPUT: true; the input reads as it did. -/
def fnExactUsersFindSpec : ChangeSpec := { name := "fnExactUsersFind", fn := fun _ => fun
  | [d1, d2] => { results := [.lit (.bool true)], args := [d1, d2] }
  | _ => none }
def fnExactUsersFindRow : OpenClaim := { program := "ytpolpopkiegjkaa", sum := "b7d2cd7b65bb09beccf14303c7bdfaf33ab8bc0a2a5feba2d543401e773f24d8", func := "loop.example/mailhost/laws.FnExactUsersFind", spec := "fnExactUsersFind", unfollowed := true, recurses := true, apart := false }
def FnExactUsersFindSaid : Prop := fnExactUsersFindRow.holds Try.pinned (OpenSpec.ofChange fnExactUsersFindSpec)

/-- ITS FALSE NEIGHBOUR: 'it returns false'. Refute it at one input. -/
def fnExactUsersFindWrong : ChangeSpec := { name := "fnExactUsersFind", fn := fun _ => fun
  | [d1, d2] => { results := [.lit (.bool false)], args := [d1, d2] }
  | _ => none }
def FnExactUsersFindWrongFalsely : Prop := fnExactUsersFindRow.holds Try.pinned (OpenSpec.ofChange fnExactUsersFindWrong)

/-- 'laws.FnExactAclRights': WHATEVER THE INPUT: true; the input reads as it did. -/
def fnExactAclRightsSpec : ChangeSpec := { name := "fnExactAclRights", fn := fun _ => fun
  | [d1, d2, d3] => { results := [.lit (.bool true)], args := [d1, d2, d3] }
  | _ => none }
def fnExactAclRightsRow : OpenClaim := { program := "ytpolpopkiegjkaa", sum := "b7d2cd7b65bb09beccf14303c7bdfaf33ab8bc0a2a5feba2d543401e773f24d8", func := "loop.example/mailhost/laws.FnExactAclRights", spec := "fnExactAclRights", apart := false }
def FnExactAclRightsSaid : Prop := fnExactAclRightsRow.holds Try.pinned (OpenSpec.ofChange fnExactAclRightsSpec)

/-- ITS FALSE NEIGHBOUR: 'it returns false'. Refute it at one input. -/
def fnExactAclRightsWrong : ChangeSpec := { name := "fnExactAclRights", fn := fun _ => fun
  | [d1, d2, d3] => { results := [.lit (.bool false)], args := [d1, d2, d3] }
  | _ => none }
def FnExactAclRightsWrongFalsely : Prop := fnExactAclRightsRow.holds Try.pinned (OpenSpec.ofChange fnExactAclRightsWrong)

/-- 'laws.FnProve': WHATEVER THE INPUT: true; the input reads as it did. -/
def fnProveSpec : ChangeSpec := { name := "fnProve", fn := fun _ => fun
  | [d] => { results := [.lit (.bool true)], args := [d] }
  | _ => none }
def fnProveRow : OpenClaim := { program := "ytpolpopkiegjkaa", sum := "b7d2cd7b65bb09beccf14303c7bdfaf33ab8bc0a2a5feba2d543401e773f24d8", func := "loop.example/mailhost/laws.FnProve", spec := "fnProve", unfollowed := true, recurses := true, apart := false }
def FnProveSaid : Prop := fnProveRow.holds Try.pinned (OpenSpec.ofChange fnProveSpec)

/-- ITS FALSE NEIGHBOUR: 'it returns false'. Refute it at one input. -/
def fnProveWrong : ChangeSpec := { name := "fnProve", fn := fun _ => fun
  | [d] => { results := [.lit (.bool false)], args := [d] }
  | _ => none }
def FnProveWrongFalsely : Prop := fnProveRow.holds Try.pinned (OpenSpec.ofChange fnProveWrong)

/-- 'laws.FnProveOther': WHATEVER THE INPUT: true; the input reads as it did. -/
def fnProveOtherSpec : ChangeSpec := { name := "fnProveOther", fn := fun _ => fun
  | [d] => { results := [.lit (.bool true)], args := [d] }
  | _ => none }
def fnProveOtherRow : OpenClaim := { program := "ytpolpopkiegjkaa", sum := "b7d2cd7b65bb09beccf14303c7bdfaf33ab8bc0a2a5feba2d543401e773f24d8", func := "loop.example/mailhost/laws.FnProveOther", spec := "fnProveOther", unfollowed := true, recurses := true, apart := false }
def FnProveOtherSaid : Prop := fnProveOtherRow.holds Try.pinned (OpenSpec.ofChange fnProveOtherSpec)

/-- ITS FALSE NEIGHBOUR: 'it returns false'. Refute it at one input. -/
def fnProveOtherWrong : ChangeSpec := { name := "fnProveOther", fn := fun _ => fun
  | [d] => { results := [.lit (.bool false)], args := [d] }
  | _ => none }
def FnProveOtherWrongFalsely : Prop := fnProveOtherRow.holds Try.pinned (OpenSpec.ofChange fnProveOtherWrong)

/-- 'laws.FnLetterPart': WHATEVER THE INPUT: true; the input reads as it did. -/
def fnLetterPartSpec : ChangeSpec := { name := "fnLetterPart", fn := fun _ => fun
  | [d1, d2] => { results := [.lit (.bool true)], args := [d1, d2] }
  | _ => none }
def fnLetterPartRow : OpenClaim := { program := "ytpolpopkiegjkaa", sum := "b7d2cd7b65bb09beccf14303c7bdfaf33ab8bc0a2a5feba2d543401e773f24d8", func := "loop.example/mailhost/laws.FnLetterPart", spec := "fnLetterPart", apart := false }
def FnLetterPartSaid : Prop := fnLetterPartRow.holds Try.pinned (OpenSpec.ofChange fnLetterPartSpec)

/-- ITS FALSE NEIGHBOUR: 'it returns false'. Refute it at one input. -/
def fnLetterPartWrong : ChangeSpec := { name := "fnLetterPart", fn := fun _ => fun
  | [d1, d2] => { results := [.lit (.bool false)], args := [d1, d2] }
  | _ => none }
def FnLetterPartWrongFalsely : Prop := fnLetterPartRow.holds Try.pinned (OpenSpec.ofChange fnLetterPartWrong)

/-- 'laws.FnExactUsersProve': WHATEVER THE INPUT: true; the input reads as it did. -/
def fnExactUsersProveSpec : ChangeSpec := { name := "fnExactUsersProve", fn := fun _ => fun
  | [d1, d2, d3] => { results := [.lit (.bool true)], args := [d1, d2, d3] }
  | _ => none }
def fnExactUsersProveRow : OpenClaim := { program := "ytpolpopkiegjkaa", sum := "b7d2cd7b65bb09beccf14303c7bdfaf33ab8bc0a2a5feba2d543401e773f24d8", func := "loop.example/mailhost/laws.FnExactUsersProve", spec := "fnExactUsersProve", unfollowed := true, recurses := true, apart := false }
def FnExactUsersProveSaid : Prop := fnExactUsersProveRow.holds Try.pinned (OpenSpec.ofChange fnExactUsersProveSpec)

/-- ITS FALSE NEIGHBOUR: 'it returns false'. Refute it at one input. -/
def fnExactUsersProveWrong : ChangeSpec := { name := "fnExactUsersProve", fn := fun _ => fun
  | [d1, d2, d3] => { results := [.lit (.bool false)], args := [d1, d2, d3] }
  | _ => none }
def FnExactUsersProveWrongFalsely : Prop := fnExactUsersProveRow.holds Try.pinned (OpenSpec.ofChange fnExactUsersProveWrong)

/-- 'laws.FnExactSubmissionValid': WHATEVER THE INPUT: true; the input reads as it did. -/
def fnExactSubmissionValidSpec : ChangeSpec := { name := "fnExactSubmissionValid", fn := fun _ => fun
  | [d] => { results := [.lit (.bool true)], args := [d] }
  | _ => none }
def fnExactSubmissionValidRow : OpenClaim := { program := "ytpolpopkiegjkaa", sum := "b7d2cd7b65bb09beccf14303c7bdfaf33ab8bc0a2a5feba2d543401e773f24d8", func := "loop.example/mailhost/laws.FnExactSubmissionValid", spec := "fnExactSubmissionValid", apart := false }
def FnExactSubmissionValidSaid : Prop := fnExactSubmissionValidRow.holds Try.pinned (OpenSpec.ofChange fnExactSubmissionValidSpec)

/-- ITS FALSE NEIGHBOUR: 'it returns false'. Refute it at one input. -/
def fnExactSubmissionValidWrong : ChangeSpec := { name := "fnExactSubmissionValid", fn := fun _ => fun
  | [d] => { results := [.lit (.bool false)], args := [d] }
  | _ => none }
def FnExactSubmissionValidWrongFalsely : Prop := fnExactSubmissionValidRow.holds Try.pinned (OpenSpec.ofChange fnExactSubmissionValidWrong)

/-- 'laws.FnAclNone': WHATEVER THE INPUT: true; the input reads as it did. -/
def fnAclNoneSpec : ChangeSpec := { name := "fnAclNone", fn := fun _ => fun
  | [d] => { results := [.lit (.bool true)], args := [d] }
  | _ => none }
def fnAclNoneRow : OpenClaim := { program := "ytpolpopkiegjkaa", sum := "b7d2cd7b65bb09beccf14303c7bdfaf33ab8bc0a2a5feba2d543401e773f24d8", func := "loop.example/mailhost/laws.FnAclNone", spec := "fnAclNone", apart := false }
def FnAclNoneSaid : Prop := fnAclNoneRow.holds Try.pinned (OpenSpec.ofChange fnAclNoneSpec)

/-- ITS FALSE NEIGHBOUR: 'it returns false'. Refute it at one input. -/
def fnAclNoneWrong : ChangeSpec := { name := "fnAclNone", fn := fun _ => fun
  | [d] => { results := [.lit (.bool false)], args := [d] }
  | _ => none }
def FnAclNoneWrongFalsely : Prop := fnAclNoneRow.holds Try.pinned (OpenSpec.ofChange fnAclNoneWrong)

/-- 'laws.FnAclAnyone': WHATEVER THE INPUT: true; the input reads as it did. -/
def fnAclAnyoneSpec : ChangeSpec := { name := "fnAclAnyone", fn := fun _ => fun
  | [d] => { results := [.lit (.bool true)], args := [d] }
  | _ => none }
def fnAclAnyoneRow : OpenClaim := { program := "ytpolpopkiegjkaa", sum := "b7d2cd7b65bb09beccf14303c7bdfaf33ab8bc0a2a5feba2d543401e773f24d8", func := "loop.example/mailhost/laws.FnAclAnyone", spec := "fnAclAnyone", apart := false }
def FnAclAnyoneSaid : Prop := fnAclAnyoneRow.holds Try.pinned (OpenSpec.ofChange fnAclAnyoneSpec)

/-- ITS FALSE NEIGHBOUR: 'it returns false'. Refute it at one input. -/
def fnAclAnyoneWrong : ChangeSpec := { name := "fnAclAnyone", fn := fun _ => fun
  | [d] => { results := [.lit (.bool false)], args := [d] }
  | _ => none }
def FnAclAnyoneWrongFalsely : Prop := fnAclAnyoneRow.holds Try.pinned (OpenSpec.ofChange fnAclAnyoneWrong)

/-- 'laws.FnAclOwner': WHATEVER THE INPUT: true; the input reads as it did. -/
def fnAclOwnerSpec : ChangeSpec := { name := "fnAclOwner", fn := fun _ => fun
  | [d] => { results := [.lit (.bool true)], args := [d] }
  | _ => none }
def fnAclOwnerRow : OpenClaim := { program := "ytpolpopkiegjkaa", sum := "b7d2cd7b65bb09beccf14303c7bdfaf33ab8bc0a2a5feba2d543401e773f24d8", func := "loop.example/mailhost/laws.FnAclOwner", spec := "fnAclOwner", apart := false }
def FnAclOwnerSaid : Prop := fnAclOwnerRow.holds Try.pinned (OpenSpec.ofChange fnAclOwnerSpec)

/-- ITS FALSE NEIGHBOUR: 'it returns false'. Refute it at one input. -/
def fnAclOwnerWrong : ChangeSpec := { name := "fnAclOwner", fn := fun _ => fun
  | [d] => { results := [.lit (.bool false)], args := [d] }
  | _ => none }
def FnAclOwnerWrongFalsely : Prop := fnAclOwnerRow.holds Try.pinned (OpenSpec.ofChange fnAclOwnerWrong)

/- THE SECOND FORM. 'bulk': how many values and letters a reading holds, each counted each time it is reached (what is shared counts as often as it is met; a slice's spare places count too). A statement '..UptoSaid' is the law's where the arguments, and the package variables that the reading takes, are together of bulk at most 1048576: NARROWER than '..Said'. Prove '..Said' where nothing that the law and all that it calls make is longer than what came in: it says more and counts as full. Else prove '..UptoSaid'. A law counts once. -/
mutual
def uptoBulk {H : Type} : DataW H → Nat
  | .lit (.string bytes) => bytes.length + 1
  | .lit _ => 1
  | .nil => 1
  | .ptr d => uptoBulk d + 1
  | .slice elems spare => uptoBulkAll elems + uptoBulkAll spare + 1
  | .agg parts => uptoBulkAll parts + 1
  | .iface _ d => uptoBulk d + 1
  | .map entries => uptoBulkEntries entries + 1
  | .held _ => 1
def uptoBulkAll {H : Type} : List (DataW H) → Nat
  | [] => 0
  | d :: r => uptoBulk d + uptoBulkAll r
def uptoBulkEntries {H : Type} : List (Lit × DataW H) → Nat
  | [] => 0
  | x :: r => uptoBulkEntry x + uptoBulkEntries r
def uptoBulkEntry {H : Type} : Lit × DataW H → Nat
  | (.string bytes, d) => bytes.length + uptoBulk d + 1
  | (_, d) => uptoBulk d + 1
 end
def uptoSmall : (H : Type) → List (DataW H) → Bool := fun _ ds => decide (uptoBulkAll ds ≤ 1048576)
def OpenSpec.upto (s : _root_.Go.ChangeSpec) : _root_.Go.OpenSpec := { _root_.Go.OpenSpec.ofChange s with cond := some uptoSmall }

/-- 'laws.FnAclPart', WHERE WHAT IT READS IS OF BULK AT MOST 1048576: true; the input reads as it did. -/
def fnAclPartUptoRow : OpenClaim := { program := "ytpolpopkiegjkaa", sum := "b7d2cd7b65bb09beccf14303c7bdfaf33ab8bc0a2a5feba2d543401e773f24d8", func := "loop.example/mailhost/laws.FnAclPart", spec := "fnAclPart", apart := false, narrowed := true }
def FnAclPartUptoSaid : Prop := fnAclPartUptoRow.holds Try.pinned (OpenSpec.upto fnAclPartSpec)

/-- 'laws.FnExactLetterValid', WHERE WHAT IT READS IS OF BULK AT MOST 1048576: true; the input reads as it did. -/
def fnExactLetterValidUptoRow : OpenClaim := { program := "ytpolpopkiegjkaa", sum := "b7d2cd7b65bb09beccf14303c7bdfaf33ab8bc0a2a5feba2d543401e773f24d8", func := "loop.example/mailhost/laws.FnExactLetterValid", spec := "fnExactLetterValid", apart := false, narrowed := true }
def FnExactLetterValidUptoSaid : Prop := fnExactLetterValidUptoRow.holds Try.pinned (OpenSpec.upto fnExactLetterValidSpec)

/-- 'laws.FnExactUsersFind', WHERE WHAT IT READS IS OF BULK AT MOST 1048576: true; the input reads as it did. -/
def fnExactUsersFindUptoRow : OpenClaim := { program := "ytpolpopkiegjkaa", sum := "b7d2cd7b65bb09beccf14303c7bdfaf33ab8bc0a2a5feba2d543401e773f24d8", func := "loop.example/mailhost/laws.FnExactUsersFind", spec := "fnExactUsersFind", unfollowed := true, recurses := true, apart := false, narrowed := true }
def FnExactUsersFindUptoSaid : Prop := fnExactUsersFindUptoRow.holds Try.pinned (OpenSpec.upto fnExactUsersFindSpec)

/-- 'laws.FnExactAclRights', WHERE WHAT IT READS IS OF BULK AT MOST 1048576: true; the input reads as it did. -/
def fnExactAclRightsUptoRow : OpenClaim := { program := "ytpolpopkiegjkaa", sum := "b7d2cd7b65bb09beccf14303c7bdfaf33ab8bc0a2a5feba2d543401e773f24d8", func := "loop.example/mailhost/laws.FnExactAclRights", spec := "fnExactAclRights", apart := false, narrowed := true }
def FnExactAclRightsUptoSaid : Prop := fnExactAclRightsUptoRow.holds Try.pinned (OpenSpec.upto fnExactAclRightsSpec)

/-- 'laws.FnProve', WHERE WHAT IT READS IS OF BULK AT MOST 1048576: true; the input reads as it did. -/
def fnProveUptoRow : OpenClaim := { program := "ytpolpopkiegjkaa", sum := "b7d2cd7b65bb09beccf14303c7bdfaf33ab8bc0a2a5feba2d543401e773f24d8", func := "loop.example/mailhost/laws.FnProve", spec := "fnProve", unfollowed := true, recurses := true, apart := false, narrowed := true }
def FnProveUptoSaid : Prop := fnProveUptoRow.holds Try.pinned (OpenSpec.upto fnProveSpec)

/-- 'laws.FnProveOther', WHERE WHAT IT READS IS OF BULK AT MOST 1048576: true; the input reads as it did. -/
def fnProveOtherUptoRow : OpenClaim := { program := "ytpolpopkiegjkaa", sum := "b7d2cd7b65bb09beccf14303c7bdfaf33ab8bc0a2a5feba2d543401e773f24d8", func := "loop.example/mailhost/laws.FnProveOther", spec := "fnProveOther", unfollowed := true, recurses := true, apart := false, narrowed := true }
def FnProveOtherUptoSaid : Prop := fnProveOtherUptoRow.holds Try.pinned (OpenSpec.upto fnProveOtherSpec)

/-- 'laws.FnLetterPart', WHERE WHAT IT READS IS OF BULK AT MOST 1048576: true; the input reads as it did. -/
def fnLetterPartUptoRow : OpenClaim := { program := "ytpolpopkiegjkaa", sum := "b7d2cd7b65bb09beccf14303c7bdfaf33ab8bc0a2a5feba2d543401e773f24d8", func := "loop.example/mailhost/laws.FnLetterPart", spec := "fnLetterPart", apart := false, narrowed := true }
def FnLetterPartUptoSaid : Prop := fnLetterPartUptoRow.holds Try.pinned (OpenSpec.upto fnLetterPartSpec)

/-- 'laws.FnExactUsersProve', WHERE WHAT IT READS IS OF BULK AT MOST 1048576: true; the input reads as it did. -/
def fnExactUsersProveUptoRow : OpenClaim := { program := "ytpolpopkiegjkaa", sum := "b7d2cd7b65bb09beccf14303c7bdfaf33ab8bc0a2a5feba2d543401e773f24d8", func := "loop.example/mailhost/laws.FnExactUsersProve", spec := "fnExactUsersProve", unfollowed := true, recurses := true, apart := false, narrowed := true }
def FnExactUsersProveUptoSaid : Prop := fnExactUsersProveUptoRow.holds Try.pinned (OpenSpec.upto fnExactUsersProveSpec)

/-- 'laws.FnExactSubmissionValid', WHERE WHAT IT READS IS OF BULK AT MOST 1048576: true; the input reads as it did. -/
def fnExactSubmissionValidUptoRow : OpenClaim := { program := "ytpolpopkiegjkaa", sum := "b7d2cd7b65bb09beccf14303c7bdfaf33ab8bc0a2a5feba2d543401e773f24d8", func := "loop.example/mailhost/laws.FnExactSubmissionValid", spec := "fnExactSubmissionValid", apart := false, narrowed := true }
def FnExactSubmissionValidUptoSaid : Prop := fnExactSubmissionValidUptoRow.holds Try.pinned (OpenSpec.upto fnExactSubmissionValidSpec)

/-- 'laws.FnAclNone', WHERE WHAT IT READS IS OF BULK AT MOST 1048576: true; the input reads as it did. -/
def fnAclNoneUptoRow : OpenClaim := { program := "ytpolpopkiegjkaa", sum := "b7d2cd7b65bb09beccf14303c7bdfaf33ab8bc0a2a5feba2d543401e773f24d8", func := "loop.example/mailhost/laws.FnAclNone", spec := "fnAclNone", apart := false, narrowed := true }
def FnAclNoneUptoSaid : Prop := fnAclNoneUptoRow.holds Try.pinned (OpenSpec.upto fnAclNoneSpec)

/-- 'laws.FnAclAnyone', WHERE WHAT IT READS IS OF BULK AT MOST 1048576: true; the input reads as it did. -/
def fnAclAnyoneUptoRow : OpenClaim := { program := "ytpolpopkiegjkaa", sum := "b7d2cd7b65bb09beccf14303c7bdfaf33ab8bc0a2a5feba2d543401e773f24d8", func := "loop.example/mailhost/laws.FnAclAnyone", spec := "fnAclAnyone", apart := false, narrowed := true }
def FnAclAnyoneUptoSaid : Prop := fnAclAnyoneUptoRow.holds Try.pinned (OpenSpec.upto fnAclAnyoneSpec)

/-- 'laws.FnAclOwner', WHERE WHAT IT READS IS OF BULK AT MOST 1048576: true; the input reads as it did. -/
def fnAclOwnerUptoRow : OpenClaim := { program := "ytpolpopkiegjkaa", sum := "b7d2cd7b65bb09beccf14303c7bdfaf33ab8bc0a2a5feba2d543401e773f24d8", func := "loop.example/mailhost/laws.FnAclOwner", spec := "fnAclOwner", apart := false, narrowed := true }
def FnAclOwnerUptoSaid : Prop := fnAclOwnerUptoRow.holds Try.pinned (OpenSpec.upto fnAclOwnerSpec)

end Rows
end Go.Proofs.Ytpolpopkiegjkaa

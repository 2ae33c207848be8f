/-
  No cell of these rows narrows 'for every input' (looked for: loops, veiled, ifaces, maps, wideKeys, modest, calm, conditions, laid).
  DERIVED. THE GIVEN ROWS OF THIS SEAT. 12 by the template 'for every input the law returns true; each argument reads behind the call as it read before'; 0 by the template 'total and deterministic' (their statements: YtmjpcfohgldpoaaTotals.lean).
  GIVEN WITH THE SEED: the statements are not yours to turn. If you find one false, say at which input.
  Laid BY PROGRAM, IN A SANDBOX (cutbox-rows.mjs): the forced cells as the released guide's own fill.sh prints them over the translation 1183b39e676be95c… (all of the seat's roots in one cut). By AI agents, Wed Nov 11 2026. No macro, syntax, notation, axiom, sorry.
-/
import Derived.Test.YtmjpcfohgldpoaaChecked
import GoSem.Claim
import GoSem.ClaimJoined
import GoSem.ClaimMapViews
import Derived.JoinedTies
import Derived.KernelRfl
namespace Go.Proofs.Ytmjpcfohgldpoaa
/- THE CELL 'sum', in the pinned program and in every row, IS THE sha256 OF THE DUMP (.gsa) THAT YtmjpcfohgldpoaaProg.lean LOADS. Nothing in Lean hashes anything: it is a label: what it is worth is what the hold of that sum in a sandbox is worth. -/
noncomputable def Try.pinned : Pinned := { name := "ytmjpcfohgldpoaa", sum := "1183b39e676be95c7b56eebcf3a452c46d855205c173b341f100442f49541939", checked := Try.checked }
namespace Rows
def none {H : Type} : Left H := { results := [], args := [] }

/-- 'laws.FnExactRightsParse': WHATEVER THE INPUT: true; the input reads as it did. -/
def fnExactRightsParseSpec : ChangeSpec := { name := "fnExactRightsParse", fn := fun _ => fun
  | [d] => { results := [.lit (.bool true)], args := [d] }
  | _ => none }
def fnExactRightsParseRow : OpenClaim := { program := "ytmjpcfohgldpoaa", sum := "1183b39e676be95c7b56eebcf3a452c46d855205c173b341f100442f49541939", func := "loop.example/mailhost/laws.FnExactRightsParse", spec := "fnExactRightsParse", inPlace := ["internal/bytealg.IndexByteString"], apart := false }
def FnExactRightsParseSaid : Prop := fnExactRightsParseRow.holds Try.pinned (OpenSpec.ofChange fnExactRightsParseSpec)

/-- ITS FALSE NEIGHBOUR: 'it returns false'. Refute it at one input. -/
def fnExactRightsParseWrong : ChangeSpec := { name := "fnExactRightsParse", fn := fun _ => fun
  | [d] => { results := [.lit (.bool false)], args := [d] }
  | _ => none }
def FnExactRightsParseWrongFalsely : Prop := fnExactRightsParseRow.holds Try.pinned (OpenSpec.ofChange fnExactRightsParseWrong)

/-- 'laws.FnExactRightsText': WHATEVER THE INPUT: true; the input reads as it did. -/
def fnExactRightsTextSpec : ChangeSpec := { name := "fnExactRightsText", fn := fun _ => fun
  | [d] => { results := [.lit (.bool true)], args := [d] }
  | _ => none }
def fnExactRightsTextRow : OpenClaim := { program := "ytmjpcfohgldpoaa", sum := "1183b39e676be95c7b56eebcf3a452c46d855205c173b341f100442f49541939", func := "loop.example/mailhost/laws.FnExactRightsText", spec := "fnExactRightsText", inPlace := ["internal/abi.NoEscape"], apart := false }
def FnExactRightsTextSaid : Prop := fnExactRightsTextRow.holds Try.pinned (OpenSpec.ofChange fnExactRightsTextSpec)

/-- ITS FALSE NEIGHBOUR: 'it returns false'. Refute it at one input. -/
def fnExactRightsTextWrong : ChangeSpec := { name := "fnExactRightsText", fn := fun _ => fun
  | [d] => { results := [.lit (.bool false)], args := [d] }
  | _ => none }
def FnExactRightsTextWrongFalsely : Prop := fnExactRightsTextRow.holds Try.pinned (OpenSpec.ofChange fnExactRightsTextWrong)

/-- 'laws.FnRightsText': WHATEVER THE INPUT: true; the input reads as it did. -/
def fnRightsTextSpec : ChangeSpec := { name := "fnRightsText", fn := fun _ => fun
  | [d] => { results := [.lit (.bool true)], args := [d] }
  | _ => none }
def fnRightsTextRow : OpenClaim := { program := "ytmjpcfohgldpoaa", sum := "1183b39e676be95c7b56eebcf3a452c46d855205c173b341f100442f49541939", func := "loop.example/mailhost/laws.FnRightsText", spec := "fnRightsText", inPlace := ["internal/abi.NoEscape"], apart := false }
def FnRightsTextSaid : Prop := fnRightsTextRow.holds Try.pinned (OpenSpec.ofChange fnRightsTextSpec)

/-- ITS FALSE NEIGHBOUR: 'it returns false'. Refute it at one input. -/
def fnRightsTextWrong : ChangeSpec := { name := "fnRightsText", fn := fun _ => fun
  | [d] => { results := [.lit (.bool false)], args := [d] }
  | _ => none }
def FnRightsTextWrongFalsely : Prop := fnRightsTextRow.holds Try.pinned (OpenSpec.ofChange fnRightsTextWrong)

/-- 'laws.FnRightsTwice': WHATEVER THE INPUT: true; the input reads as it did. -/
def fnRightsTwiceSpec : ChangeSpec := { name := "fnRightsTwice", fn := fun _ => fun
  | [d] => { results := [.lit (.bool true)], args := [d] }
  | _ => none }
def fnRightsTwiceRow : OpenClaim := { program := "ytmjpcfohgldpoaa", sum := "1183b39e676be95c7b56eebcf3a452c46d855205c173b341f100442f49541939", func := "loop.example/mailhost/laws.FnRightsTwice", spec := "fnRightsTwice", inPlace := ["internal/bytealg.IndexByteString"], apart := false }
def FnRightsTwiceSaid : Prop := fnRightsTwiceRow.holds Try.pinned (OpenSpec.ofChange fnRightsTwiceSpec)

/-- ITS FALSE NEIGHBOUR: 'it returns false'. Refute it at one input. -/
def fnRightsTwiceWrong : ChangeSpec := { name := "fnRightsTwice", fn := fun _ => fun
  | [d] => { results := [.lit (.bool false)], args := [d] }
  | _ => none }
def FnRightsTwiceWrongFalsely : Prop := fnRightsTwiceRow.holds Try.pinned (OpenSpec.ofChange fnRightsTwiceWrong)

/-- 'laws.FnUsersAnyone': WHATEVER THE INPUT: true; the input reads as it did. -/
def fnUsersAnyoneSpec : ChangeSpec := { name := "fnUsersAnyone", fn := fun _ => fun
  | [d] => { results := [.lit (.bool true)], args := [d] }
  | _ => none }
def fnUsersAnyoneRow : OpenClaim := { program := "ytmjpcfohgldpoaa", sum := "1183b39e676be95c7b56eebcf3a452c46d855205c173b341f100442f49541939", func := "loop.example/mailhost/laws.FnUsersAnyone", spec := "fnUsersAnyone", apart := false }
def FnUsersAnyoneSaid : Prop := fnUsersAnyoneRow.holds Try.pinned (OpenSpec.ofChange fnUsersAnyoneSpec)

/-- ITS FALSE NEIGHBOUR: 'it returns false'. Refute it at one input. -/
def fnUsersAnyoneWrong : ChangeSpec := { name := "fnUsersAnyone", fn := fun _ => fun
  | [d] => { results := [.lit (.bool false)], args := [d] }
  | _ => none }
def FnUsersAnyoneWrongFalsely : Prop := fnUsersAnyoneRow.holds Try.pinned (OpenSpec.ofChange fnUsersAnyoneWrong)

/-- 'laws.FnUsersPart': WHATEVER THE INPUT: true; the input reads as it did. -/
def fnUsersPartSpec : ChangeSpec := { name := "fnUsersPart", fn := fun _ => fun
  | [d1, d2] => { results := [.lit (.bool true)], args := [d1, d2] }
  | _ => none }
def fnUsersPartRow : OpenClaim := { program := "ytmjpcfohgldpoaa", sum := "1183b39e676be95c7b56eebcf3a452c46d855205c173b341f100442f49541939", func := "loop.example/mailhost/laws.FnUsersPart", spec := "fnUsersPart", apart := false }
def FnUsersPartSaid : Prop := fnUsersPartRow.holds Try.pinned (OpenSpec.ofChange fnUsersPartSpec)

/-- ITS FALSE NEIGHBOUR: 'it returns false'. Refute it at one input. -/
def fnUsersPartWrong : ChangeSpec := { name := "fnUsersPart", fn := fun _ => fun
  | [d1, d2] => { results := [.lit (.bool false)], args := [d1, d2] }
  | _ => none }
def FnUsersPartWrongFalsely : Prop := fnUsersPartRow.holds Try.pinned (OpenSpec.ofChange fnUsersPartWrong)

/-- 'laws.FnRights': WHATEVER THE INPUT: true; the input reads as it did. -/
def fnRightsSpec : ChangeSpec := { name := "fnRights", fn := fun _ => fun
  | [d] => { results := [.lit (.bool true)], args := [d] }
  | _ => none }
def fnRightsRow : OpenClaim := { program := "ytmjpcfohgldpoaa", sum := "1183b39e676be95c7b56eebcf3a452c46d855205c173b341f100442f49541939", func := "loop.example/mailhost/laws.FnRights", spec := "fnRights", inPlace := ["internal/abi.NoEscape", "internal/bytealg.IndexByteString"], apart := false }
def FnRightsSaid : Prop := fnRightsRow.holds Try.pinned (OpenSpec.ofChange fnRightsSpec)

/-- ITS FALSE NEIGHBOUR: 'it returns false'. Refute it at one input. -/
def fnRightsWrong : ChangeSpec := { name := "fnRights", fn := fun _ => fun
  | [d] => { results := [.lit (.bool false)], args := [d] }
  | _ => none }
def FnRightsWrongFalsely : Prop := fnRightsRow.holds Try.pinned (OpenSpec.ofChange fnRightsWrong)

/-- 'laws.FnExactUsersValid': WHATEVER THE INPUT: true; the input reads as it did. -/
def fnExactUsersValidSpec : ChangeSpec := { name := "fnExactUsersValid", fn := fun _ => fun
  | [d] => { results := [.lit (.bool true)], args := [d] }
  | _ => none }
def fnExactUsersValidRow : OpenClaim := { program := "ytmjpcfohgldpoaa", sum := "1183b39e676be95c7b56eebcf3a452c46d855205c173b341f100442f49541939", func := "loop.example/mailhost/laws.FnExactUsersValid", spec := "fnExactUsersValid", apart := false }
def FnExactUsersValidSaid : Prop := fnExactUsersValidRow.holds Try.pinned (OpenSpec.ofChange fnExactUsersValidSpec)

/-- ITS FALSE NEIGHBOUR: 'it returns false'. Refute it at one input. -/
def fnExactUsersValidWrong : ChangeSpec := { name := "fnExactUsersValid", fn := fun _ => fun
  | [d] => { results := [.lit (.bool false)], args := [d] }
  | _ => none }
def FnExactUsersValidWrongFalsely : Prop := fnExactUsersValidRow.holds Try.pinned (OpenSpec.ofChange fnExactUsersValidWrong)

/-- 'laws.FnExactAclValid': WHATEVER THE INPUT: true; the input reads as it did. -/
def fnExactAclValidSpec : ChangeSpec := { name := "fnExactAclValid", fn := fun _ => fun
  | [d] => { results := [.lit (.bool true)], args := [d] }
  | _ => none }
def fnExactAclValidRow : OpenClaim := { program := "ytmjpcfohgldpoaa", sum := "1183b39e676be95c7b56eebcf3a452c46d855205c173b341f100442f49541939", func := "loop.example/mailhost/laws.FnExactAclValid", spec := "fnExactAclValid", apart := false }
def FnExactAclValidSaid : Prop := fnExactAclValidRow.holds Try.pinned (OpenSpec.ofChange fnExactAclValidSpec)

/-- ITS FALSE NEIGHBOUR: 'it returns false'. Refute it at one input. -/
def fnExactAclValidWrong : ChangeSpec := { name := "fnExactAclValid", fn := fun _ => fun
  | [d] => { results := [.lit (.bool false)], args := [d] }
  | _ => none }
def FnExactAclValidWrongFalsely : Prop := fnExactAclValidRow.holds Try.pinned (OpenSpec.ofChange fnExactAclValidWrong)

/-- 'laws.FnFindAll': WHATEVER THE INPUT: true; the input reads as it did. -/
def fnFindAllSpec : ChangeSpec := { name := "fnFindAll", fn := fun _ => fun
  | [d] => { results := [.lit (.bool true)], args := [d] }
  | _ => none }
def fnFindAllRow : OpenClaim := { program := "ytmjpcfohgldpoaa", sum := "1183b39e676be95c7b56eebcf3a452c46d855205c173b341f100442f49541939", func := "loop.example/mailhost/laws.FnFindAll", spec := "fnFindAll", unfollowed := true, recurses := true, apart := false }
def FnFindAllSaid : Prop := fnFindAllRow.holds Try.pinned (OpenSpec.ofChange fnFindAllSpec)

/-- ITS FALSE NEIGHBOUR: 'it returns false'. Refute it at one input. -/
def fnFindAllWrong : ChangeSpec := { name := "fnFindAll", fn := fun _ => fun
  | [d] => { results := [.lit (.bool false)], args := [d] }
  | _ => none }
def FnFindAllWrongFalsely : Prop := fnFindAllRow.holds Try.pinned (OpenSpec.ofChange fnFindAllWrong)

/-- 'laws.FnRightsParse': WHATEVER THE INPUT: true; the input reads as it did. -/
def fnRightsParseSpec : ChangeSpec := { name := "fnRightsParse", fn := fun _ => fun
  | [d] => { results := [.lit (.bool true)], args := [d] }
  | _ => none }
def fnRightsParseRow : OpenClaim := { program := "ytmjpcfohgldpoaa", sum := "1183b39e676be95c7b56eebcf3a452c46d855205c173b341f100442f49541939", func := "loop.example/mailhost/laws.FnRightsParse", spec := "fnRightsParse", inPlace := ["internal/bytealg.IndexByteString", "internal/abi.NoEscape"], apart := false }
def FnRightsParseSaid : Prop := fnRightsParseRow.holds Try.pinned (OpenSpec.ofChange fnRightsParseSpec)

/-- ITS FALSE NEIGHBOUR: 'it returns false'. Refute it at one input. -/
def fnRightsParseWrong : ChangeSpec := { name := "fnRightsParse", fn := fun _ => fun
  | [d] => { results := [.lit (.bool false)], args := [d] }
  | _ => none }
def FnRightsParseWrongFalsely : Prop := fnRightsParseRow.holds Try.pinned (OpenSpec.ofChange fnRightsParseWrong)

/-- 'laws.FnFind': WHATEVER THE INPUT: true; the input reads as it did. -/
def fnFindSpec : ChangeSpec := { name := "fnFind", fn := fun _ => fun
  | [d] => { results := [.lit (.bool true)], args := [d] }
  | _ => none }
def fnFindRow : OpenClaim := { program := "ytmjpcfohgldpoaa", sum := "1183b39e676be95c7b56eebcf3a452c46d855205c173b341f100442f49541939", func := "loop.example/mailhost/laws.FnFind", spec := "fnFind", unfollowed := true, recurses := true, apart := false }
def FnFindSaid : Prop := fnFindRow.holds Try.pinned (OpenSpec.ofChange fnFindSpec)

/-- ITS FALSE NEIGHBOUR: 'it returns false'. Refute it at one input. -/
def fnFindWrong : ChangeSpec := { name := "fnFind", fn := fun _ => fun
  | [d] => { results := [.lit (.bool false)], args := [d] }
  | _ => none }
def FnFindWrongFalsely : Prop := fnFindRow.holds Try.pinned (OpenSpec.ofChange fnFindWrong)

/- THE SECOND FORM. 'bulk': how many values and letters a reading holds, each counted each time it is reached (what is shared counts as often as it is met; a slice's spare places count too). A statement '..UptoSaid' is the law's where the arguments, and the package variables that the reading takes, are together of bulk at most 1048576: NARROWER than '..Said'. Prove '..Said' where nothing that the law and all that it calls make is longer than what came in: it says more and counts as full. Else prove '..UptoSaid'. A law counts once. -/
mutual
def uptoBulk {H : Type} : DataW H → Nat
  | .lit (.string bytes) => bytes.length + 1
  | .lit _ => 1
  | .nil => 1
  | .ptr d => uptoBulk d + 1
  | .slice elems spare => uptoBulkAll elems + uptoBulkAll spare + 1
  | .agg parts => uptoBulkAll parts + 1
  | .iface _ d => uptoBulk d + 1
  | .map entries => uptoBulkEntries entries + 1
  | .held _ => 1
def uptoBulkAll {H : Type} : List (DataW H) → Nat
  | [] => 0
  | d :: r => uptoBulk d + uptoBulkAll r
def uptoBulkEntries {H : Type} : List (Lit × DataW H) → Nat
  | [] => 0
  | x :: r => uptoBulkEntry x + uptoBulkEntries r
def uptoBulkEntry {H : Type} : Lit × DataW H → Nat
  | (.string bytes, d) => bytes.length + uptoBulk d + 1
  | (_, d) => uptoBulk d + 1
 end
def uptoSmall : (H : Type) → List (DataW H) → Bool := fun _ ds => decide (uptoBulkAll ds ≤ 1048576)
def OpenSpec.upto (s : _root_.Go.ChangeSpec) : _root_.Go.OpenSpec := { _root_.Go.OpenSpec.ofChange s with cond := some uptoSmall }

/-- 'laws.FnExactRightsParse', WHERE WHAT IT READS IS OF BULK AT MOST 1048576: true; the input reads as it did. -/
def fnExactRightsParseUptoRow : OpenClaim := { program := "ytmjpcfohgldpoaa", sum := "1183b39e676be95c7b56eebcf3a452c46d855205c173b341f100442f49541939", func := "loop.example/mailhost/laws.FnExactRightsParse", spec := "fnExactRightsParse", inPlace := ["internal/bytealg.IndexByteString"], apart := false, narrowed := true }
def FnExactRightsParseUptoSaid : Prop := fnExactRightsParseUptoRow.holds Try.pinned (OpenSpec.upto fnExactRightsParseSpec)

/-- 'laws.FnExactRightsText', WHERE WHAT IT READS IS OF BULK AT MOST 1048576: true; the input reads as it did. -/
def fnExactRightsTextUptoRow : OpenClaim := { program := "ytmjpcfohgldpoaa", sum := "1183b39e676be95c7b56eebcf3a452c46d855205c173b341f100442f49541939", func := "loop.example/mailhost/laws.FnExactRightsText", spec := "fnExactRightsText", inPlace := ["internal/abi.NoEscape"], apart := false, narrowed := true }
def FnExactRightsTextUptoSaid : Prop := fnExactRightsTextUptoRow.holds Try.pinned (OpenSpec.upto fnExactRightsTextSpec)

/-- 'laws.FnRightsText', WHERE WHAT IT READS IS OF BULK AT MOST 1048576: true; the input reads as it did. -/
def fnRightsTextUptoRow : OpenClaim := { program := "ytmjpcfohgldpoaa", sum := "1183b39e676be95c7b56eebcf3a452c46d855205c173b341f100442f49541939", func := "loop.example/mailhost/laws.FnRightsText", spec := "fnRightsText", inPlace := ["internal/abi.NoEscape"], apart := false, narrowed := true }
def FnRightsTextUptoSaid : Prop := fnRightsTextUptoRow.holds Try.pinned (OpenSpec.upto fnRightsTextSpec)

/-- 'laws.FnRightsTwice', WHERE WHAT IT READS IS OF BULK AT MOST 1048576: true; the input reads as it did. -/
def fnRightsTwiceUptoRow : OpenClaim := { program := "ytmjpcfohgldpoaa", sum := "1183b39e676be95c7b56eebcf3a452c46d855205c173b341f100442f49541939", func := "loop.example/mailhost/laws.FnRightsTwice", spec := "fnRightsTwice", inPlace := ["internal/bytealg.IndexByteString"], apart := false, narrowed := true }
def FnRightsTwiceUptoSaid : Prop := fnRightsTwiceUptoRow.holds Try.pinned (OpenSpec.upto fnRightsTwiceSpec)

/-- 'laws.FnUsersAnyone', WHERE WHAT IT READS IS OF BULK AT MOST 1048576: true; the input reads as it did. -/
def fnUsersAnyoneUptoRow : OpenClaim := { program := "ytmjpcfohgldpoaa", sum := "1183b39e676be95c7b56eebcf3a452c46d855205c173b341f100442f49541939", func := "loop.example/mailhost/laws.FnUsersAnyone", spec := "fnUsersAnyone", apart := false, narrowed := true }
def FnUsersAnyoneUptoSaid : Prop := fnUsersAnyoneUptoRow.holds Try.pinned (OpenSpec.upto fnUsersAnyoneSpec)

/-- 'laws.FnUsersPart', WHERE WHAT IT READS IS OF BULK AT MOST 1048576: true; the input reads as it did. -/
def fnUsersPartUptoRow : OpenClaim := { program := "ytmjpcfohgldpoaa", sum := "1183b39e676be95c7b56eebcf3a452c46d855205c173b341f100442f49541939", func := "loop.example/mailhost/laws.FnUsersPart", spec := "fnUsersPart", apart := false, narrowed := true }
def FnUsersPartUptoSaid : Prop := fnUsersPartUptoRow.holds Try.pinned (OpenSpec.upto fnUsersPartSpec)

/-- 'laws.FnRights', WHERE WHAT IT READS IS OF BULK AT MOST 1048576: true; the input reads as it did. -/
def fnRightsUptoRow : OpenClaim := { program := "ytmjpcfohgldpoaa", sum := "1183b39e676be95c7b56eebcf3a452c46d855205c173b341f100442f49541939", func := "loop.example/mailhost/laws.FnRights", spec := "fnRights", inPlace := ["internal/abi.NoEscape", "internal/bytealg.IndexByteString"], apart := false, narrowed := true }
def FnRightsUptoSaid : Prop := fnRightsUptoRow.holds Try.pinned (OpenSpec.upto fnRightsSpec)

/-- 'laws.FnExactUsersValid', WHERE WHAT IT READS IS OF BULK AT MOST 1048576: true; the input reads as it did. -/
def fnExactUsersValidUptoRow : OpenClaim := { program := "ytmjpcfohgldpoaa", sum := "1183b39e676be95c7b56eebcf3a452c46d855205c173b341f100442f49541939", func := "loop.example/mailhost/laws.FnExactUsersValid", spec := "fnExactUsersValid", apart := false, narrowed := true }
def FnExactUsersValidUptoSaid : Prop := fnExactUsersValidUptoRow.holds Try.pinned (OpenSpec.upto fnExactUsersValidSpec)

/-- 'laws.FnExactAclValid', WHERE WHAT IT READS IS OF BULK AT MOST 1048576: true; the input reads as it did. -/
def fnExactAclValidUptoRow : OpenClaim := { program := "ytmjpcfohgldpoaa", sum := "1183b39e676be95c7b56eebcf3a452c46d855205c173b341f100442f49541939", func := "loop.example/mailhost/laws.FnExactAclValid", spec := "fnExactAclValid", apart := false, narrowed := true }
def FnExactAclValidUptoSaid : Prop := fnExactAclValidUptoRow.holds Try.pinned (OpenSpec.upto fnExactAclValidSpec)

/-- 'laws.FnFindAll', WHERE WHAT IT READS IS OF BULK AT MOST 1048576: true; the input reads as it did. -/
def fnFindAllUptoRow : OpenClaim := { program := "ytmjpcfohgldpoaa", sum := "1183b39e676be95c7b56eebcf3a452c46d855205c173b341f100442f49541939", func := "loop.example/mailhost/laws.FnFindAll", spec := "fnFindAll", unfollowed := true, recurses := true, apart := false, narrowed := true }
def FnFindAllUptoSaid : Prop := fnFindAllUptoRow.holds Try.pinned (OpenSpec.upto fnFindAllSpec)

/-- 'laws.FnRightsParse', WHERE WHAT IT READS IS OF BULK AT MOST 1048576: true; the input reads as it did. -/
def fnRightsParseUptoRow : OpenClaim := { program := "ytmjpcfohgldpoaa", sum := "1183b39e676be95c7b56eebcf3a452c46d855205c173b341f100442f49541939", func := "loop.example/mailhost/laws.FnRightsParse", spec := "fnRightsParse", inPlace := ["internal/bytealg.IndexByteString", "internal/abi.NoEscape"], apart := false, narrowed := true }
def FnRightsParseUptoSaid : Prop := fnRightsParseUptoRow.holds Try.pinned (OpenSpec.upto fnRightsParseSpec)

/-- 'laws.FnFind', WHERE WHAT IT READS IS OF BULK AT MOST 1048576: true; the input reads as it did. -/
def fnFindUptoRow : OpenClaim := { program := "ytmjpcfohgldpoaa", sum := "1183b39e676be95c7b56eebcf3a452c46d855205c173b341f100442f49541939", func := "loop.example/mailhost/laws.FnFind", spec := "fnFind", unfollowed := true, recurses := true, apart := false, narrowed := true }
def FnFindUptoSaid : Prop := fnFindUptoRow.holds Try.pinned (OpenSpec.upto fnFindSpec)

end Rows
end Go.Proofs.Ytmjpcfohgldpoaa

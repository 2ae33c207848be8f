/-
  No cell of these rows narrows 'for every input' (looked for: loops, veiled, ifaces, maps, wideKeys, modest, calm, conditions, laid).
  DERIVED. THE GIVEN ROWS OF THIS SEAT. 6 by the template 'for every input the law returns true; each argument reads behind the call as it read before'; 0 by the template 'total and deterministic' (their statements: YtkmaandeljancaaTotals.lean).
  GIVEN WITH THE SEED: the statements are not yours to turn. If you find one false, say at which input.
  Laid BY PROGRAM, IN A SANDBOX (cutbox-rows.mjs): the forced cells as the released guide's own fill.sh prints them over the translation 7350b94fb33b1dd0… (all of the seat's roots in one cut). By AI agents, Wed Nov 11 2026. No macro, syntax, notation, axiom, sorry.
-/
import Derived.Test.YtkmaandeljancaaChecked
import GoSem.Claim
import GoSem.ClaimJoined
import GoSem.ClaimMapViews
import Derived.JoinedTies
import Derived.KernelRfl
namespace Go.Proofs.Ytkmaandeljancaa
/- THE CELL 'sum', in the pinned program and in every row, IS THE sha256 OF THE DUMP (.gsa) THAT YtkmaandeljancaaProg.lean LOADS. Nothing in Lean hashes anything: it is a label: what it is worth is what the hold of that sum in a sandbox is worth. -/
noncomputable def Try.pinned : Pinned := { name := "ytkmaandeljancaa", sum := "7350b94fb33b1dd08fe4b2ed4708aaf58284d79b9c8c52ae840d33205d0822c3", checked := Try.checked }
namespace Rows
def none {H : Type} : Left H := { results := [], args := [] }

/-- 'laws.FnAclSetTwice': WHATEVER THE INPUT: true; the input reads as it did. -/
def fnAclSetTwiceSpec : ChangeSpec := { name := "fnAclSetTwice", fn := fun _ => fun
  | [d] => { results := [.lit (.bool true)], args := [d] }
  | _ => none }
def fnAclSetTwiceRow : OpenClaim := { program := "ytkmaandeljancaa", sum := "7350b94fb33b1dd08fe4b2ed4708aaf58284d79b9c8c52ae840d33205d0822c3", func := "loop.example/mailhost/laws.FnAclSetTwice", spec := "fnAclSetTwice", unfollowed := true, recurses := true, apart := false }
def FnAclSetTwiceSaid : Prop := fnAclSetTwiceRow.holds Try.pinned (OpenSpec.ofChange fnAclSetTwiceSpec)

/-- ITS FALSE NEIGHBOUR: 'it returns false'. Refute it at one input. -/
def fnAclSetTwiceWrong : ChangeSpec := { name := "fnAclSetTwice", fn := fun _ => fun
  | [d] => { results := [.lit (.bool false)], args := [d] }
  | _ => none }
def FnAclSetTwiceWrongFalsely : Prop := fnAclSetTwiceRow.holds Try.pinned (OpenSpec.ofChange fnAclSetTwiceWrong)

/-- 'laws.FnAclFull': WHATEVER THE INPUT: true; the input reads as it did. -/
def fnAclFullSpec : ChangeSpec := { name := "fnAclFull", fn := fun _ => fun
  | [d] => { results := [.lit (.bool true)], args := [d] }
  | _ => none }
def fnAclFullRow : OpenClaim := { program := "ytkmaandeljancaa", sum := "7350b94fb33b1dd08fe4b2ed4708aaf58284d79b9c8c52ae840d33205d0822c3", func := "loop.example/mailhost/laws.FnAclFull", spec := "fnAclFull", unfollowed := true, recurses := true, apart := false }
def FnAclFullSaid : Prop := fnAclFullRow.holds Try.pinned (OpenSpec.ofChange fnAclFullSpec)

/-- ITS FALSE NEIGHBOUR: 'it returns false'. Refute it at one input. -/
def fnAclFullWrong : ChangeSpec := { name := "fnAclFull", fn := fun _ => fun
  | [d] => { results := [.lit (.bool false)], args := [d] }
  | _ => none }
def FnAclFullWrongFalsely : Prop := fnAclFullRow.holds Try.pinned (OpenSpec.ofChange fnAclFullWrong)

/-- 'laws.FnAclSetBack': WHATEVER THE INPUT: true; the input reads as it did. -/
def fnAclSetBackSpec : ChangeSpec := { name := "fnAclSetBack", fn := fun _ => fun
  | [d] => { results := [.lit (.bool true)], args := [d] }
  | _ => none }
def fnAclSetBackRow : OpenClaim := { program := "ytkmaandeljancaa", sum := "7350b94fb33b1dd08fe4b2ed4708aaf58284d79b9c8c52ae840d33205d0822c3", func := "loop.example/mailhost/laws.FnAclSetBack", spec := "fnAclSetBack", unfollowed := true, recurses := true, apart := false }
def FnAclSetBackSaid : Prop := fnAclSetBackRow.holds Try.pinned (OpenSpec.ofChange fnAclSetBackSpec)

/-- ITS FALSE NEIGHBOUR: 'it returns false'. Refute it at one input. -/
def fnAclSetBackWrong : ChangeSpec := { name := "fnAclSetBack", fn := fun _ => fun
  | [d] => { results := [.lit (.bool false)], args := [d] }
  | _ => none }
def FnAclSetBackWrongFalsely : Prop := fnAclSetBackRow.holds Try.pinned (OpenSpec.ofChange fnAclSetBackWrong)

/-- 'laws.FnAclSetOthers': WHATEVER THE INPUT: true; the input reads as it did. -/
def fnAclSetOthersSpec : ChangeSpec := { name := "fnAclSetOthers", fn := fun _ => fun
  | [d] => { results := [.lit (.bool true)], args := [d] }
  | _ => none }
def fnAclSetOthersRow : OpenClaim := { program := "ytkmaandeljancaa", sum := "7350b94fb33b1dd08fe4b2ed4708aaf58284d79b9c8c52ae840d33205d0822c3", func := "loop.example/mailhost/laws.FnAclSetOthers", spec := "fnAclSetOthers", unfollowed := true, recurses := true, apart := false }
def FnAclSetOthersSaid : Prop := fnAclSetOthersRow.holds Try.pinned (OpenSpec.ofChange fnAclSetOthersSpec)

/-- ITS FALSE NEIGHBOUR: 'it returns false'. Refute it at one input. -/
def fnAclSetOthersWrong : ChangeSpec := { name := "fnAclSetOthers", fn := fun _ => fun
  | [d] => { results := [.lit (.bool false)], args := [d] }
  | _ => none }
def FnAclSetOthersWrongFalsely : Prop := fnAclSetOthersRow.holds Try.pinned (OpenSpec.ofChange fnAclSetOthersWrong)

/-- 'laws.FnExactAclSet': WHATEVER THE INPUT: true; the input reads as it did. -/
def fnExactAclSetSpec : ChangeSpec := { name := "fnExactAclSet", fn := fun _ => fun
  | [d1, d2, d3] => { results := [.lit (.bool true)], args := [d1, d2, d3] }
  | _ => none }
def fnExactAclSetRow : OpenClaim := { program := "ytkmaandeljancaa", sum := "7350b94fb33b1dd08fe4b2ed4708aaf58284d79b9c8c52ae840d33205d0822c3", func := "loop.example/mailhost/laws.FnExactAclSet", spec := "fnExactAclSet", unfollowed := true, recurses := true, apart := false }
def FnExactAclSetSaid : Prop := fnExactAclSetRow.holds Try.pinned (OpenSpec.ofChange fnExactAclSetSpec)

/-- ITS FALSE NEIGHBOUR: 'it returns false'. Refute it at one input. -/
def fnExactAclSetWrong : ChangeSpec := { name := "fnExactAclSet", fn := fun _ => fun
  | [d1, d2, d3] => { results := [.lit (.bool false)], args := [d1, d2, d3] }
  | _ => none }
def FnExactAclSetWrongFalsely : Prop := fnExactAclSetRow.holds Try.pinned (OpenSpec.ofChange fnExactAclSetWrong)

/-- 'laws.FnAclSet': WHATEVER THE INPUT: true; the input reads as it did. -/
def fnAclSetSpec : ChangeSpec := { name := "fnAclSet", fn := fun _ => fun
  | [d] => { results := [.lit (.bool true)], args := [d] }
  | _ => none }
def fnAclSetRow : OpenClaim := { program := "ytkmaandeljancaa", sum := "7350b94fb33b1dd08fe4b2ed4708aaf58284d79b9c8c52ae840d33205d0822c3", func := "loop.example/mailhost/laws.FnAclSet", spec := "fnAclSet", unfollowed := true, recurses := true, apart := false }
def FnAclSetSaid : Prop := fnAclSetRow.holds Try.pinned (OpenSpec.ofChange fnAclSetSpec)

/-- ITS FALSE NEIGHBOUR: 'it returns false'. Refute it at one input. -/
def fnAclSetWrong : ChangeSpec := { name := "fnAclSet", fn := fun _ => fun
  | [d] => { results := [.lit (.bool false)], args := [d] }
  | _ => none }
def FnAclSetWrongFalsely : Prop := fnAclSetRow.holds Try.pinned (OpenSpec.ofChange fnAclSetWrong)

/- THE SECOND FORM. 'bulk': how many values and letters a reading holds, each counted each time it is reached (what is shared counts as often as it is met; a slice's spare places count too). A statement '..UptoSaid' is the law's where the arguments, and the package variables that the reading takes, are together of bulk at most 1048576: NARROWER than '..Said'. Prove '..Said' where nothing that the law and all that it calls make is longer than what came in: it says more and counts as full. Else prove '..UptoSaid'. A law counts once. -/
mutual
def uptoBulk {H : Type} : DataW H → Nat
  | .lit (.string bytes) => bytes.length + 1
  | .lit _ => 1
  | .nil => 1
  | .ptr d => uptoBulk d + 1
  | .slice elems spare => uptoBulkAll elems + uptoBulkAll spare + 1
  | .agg parts => uptoBulkAll parts + 1
  | .iface _ d => uptoBulk d + 1
  | .map entries => uptoBulkEntries entries + 1
  | .held _ => 1
def uptoBulkAll {H : Type} : List (DataW H) → Nat
  | [] => 0
  | d :: r => uptoBulk d + uptoBulkAll r
def uptoBulkEntries {H : Type} : List (Lit × DataW H) → Nat
  | [] => 0
  | x :: r => uptoBulkEntry x + uptoBulkEntries r
def uptoBulkEntry {H : Type} : Lit × DataW H → Nat
  | (.string bytes, d) => bytes.length + uptoBulk d + 1
  | (_, d) => uptoBulk d + 1
 end
def uptoSmall : (H : Type) → List (DataW H) → Bool := fun _ ds => decide (uptoBulkAll ds ≤ 1048576)
def OpenSpec.upto (s : _root_.Go.ChangeSpec) : _root_.Go.OpenSpec := { _root_.Go.OpenSpec.ofChange s with cond := some uptoSmall }

/-- 'laws.FnAclSetTwice', WHERE WHAT IT READS IS OF BULK AT MOST 1048576: true; the input reads as it did. -/
def fnAclSetTwiceUptoRow : OpenClaim := { program := "ytkmaandeljancaa", sum := "7350b94fb33b1dd08fe4b2ed4708aaf58284d79b9c8c52ae840d33205d0822c3", func := "loop.example/mailhost/laws.FnAclSetTwice", spec := "fnAclSetTwice", unfollowed := true, recurses := true, apart := false, narrowed := true }
def FnAclSetTwiceUptoSaid : Prop := fnAclSetTwiceUptoRow.holds Try.pinned (OpenSpec.upto fnAclSetTwiceSpec)

/-- 'laws.FnAclFull', WHERE WHAT IT READS IS OF BULK AT MOST 1048576: true; the input reads as it did. -/
def fnAclFullUptoRow : OpenClaim := { program := "ytkmaandeljancaa", sum := "7350b94fb33b1dd08fe4b2ed4708aaf58284d79b9c8c52ae840d33205d0822c3", func := "loop.example/mailhost/laws.FnAclFull", spec := "fnAclFull", unfollowed := true, recurses := true, apart := false, narrowed := true }
def FnAclFullUptoSaid : Prop := fnAclFullUptoRow.holds Try.pinned (OpenSpec.upto fnAclFullSpec)

/-- 'laws.FnAclSetBack', WHERE WHAT IT READS IS OF BULK AT MOST 1048576: true; the input reads as it did. -/
def fnAclSetBackUptoRow : OpenClaim := { program := "ytkmaandeljancaa", sum := "7350b94fb33b1dd08fe4b2ed4708aaf58284d79b9c8c52ae840d33205d0822c3", func := "loop.example/mailhost/laws.FnAclSetBack", spec := "fnAclSetBack", unfollowed := true, recurses := true, apart := false, narrowed := true }
def FnAclSetBackUptoSaid : Prop := fnAclSetBackUptoRow.holds Try.pinned (OpenSpec.upto fnAclSetBackSpec)

/-- 'laws.FnAclSetOthers', WHERE WHAT IT READS IS OF BULK AT MOST 1048576: true; the input reads as it did. -/
def fnAclSetOthersUptoRow : OpenClaim := { program := "ytkmaandeljancaa", sum := "7350b94fb33b1dd08fe4b2ed4708aaf58284d79b9c8c52ae840d33205d0822c3", func := "loop.example/mailhost/laws.FnAclSetOthers", spec := "fnAclSetOthers", unfollowed := true, recurses := true, apart := false, narrowed := true }
def FnAclSetOthersUptoSaid : Prop := fnAclSetOthersUptoRow.holds Try.pinned (OpenSpec.upto fnAclSetOthersSpec)

/-- 'laws.FnExactAclSet', WHERE WHAT IT READS IS OF BULK AT MOST 1048576: true; the input reads as it did. -/
def fnExactAclSetUptoRow : OpenClaim := { program := "ytkmaandeljancaa", sum := "7350b94fb33b1dd08fe4b2ed4708aaf58284d79b9c8c52ae840d33205d0822c3", func := "loop.example/mailhost/laws.FnExactAclSet", spec := "fnExactAclSet", unfollowed := true, recurses := true, apart := false, narrowed := true }
def FnExactAclSetUptoSaid : Prop := fnExactAclSetUptoRow.holds Try.pinned (OpenSpec.upto fnExactAclSetSpec)

/-- 'laws.FnAclSet', WHERE WHAT IT READS IS OF BULK AT MOST 1048576: true; the input reads as it did. -/
def fnAclSetUptoRow : OpenClaim := { program := "ytkmaandeljancaa", sum := "7350b94fb33b1dd08fe4b2ed4708aaf58284d79b9c8c52ae840d33205d0822c3", func := "loop.example/mailhost/laws.FnAclSet", spec := "fnAclSet", unfollowed := true, recurses := true, apart := false, narrowed := true }
def FnAclSetUptoSaid : Prop := fnAclSetUptoRow.holds Try.pinned (OpenSpec.upto fnAclSetSpec)

end Rows
end Go.Proofs.Ytkmaandeljancaa

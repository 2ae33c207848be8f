/-
  No cell of these rows narrows 'for every input' (looked for: loops, veiled, ifaces, maps, wideKeys, modest, calm, conditions, laid).
  DERIVED. THE GIVEN ROWS OF THIS SEAT. 4 by the template 'for every input the law returns true; each argument reads behind the call as it read before'; 0 by the template 'total and deterministic' (their statements: YtpbaimofffcnaaaTotals.lean).
  GIVEN WITH THE SEED: the statements are not yours to turn. If you find one false, say at which input.
  Laid BY PROGRAM, IN A SANDBOX (cutbox-rows.mjs): the forced cells as the released guide's own fill.sh prints them over the translation ad99ccddd2670050… (all of the seat's roots in one cut). By AI agents, Wed Nov 11 2026. No macro, syntax, notation, axiom, sorry.
-/
import Derived.Test.YtpbaimofffcnaaaChecked
import GoSem.Claim
import GoSem.ClaimJoined
import GoSem.ClaimMapViews
import Derived.JoinedTies
import Derived.KernelRfl
namespace Go.Proofs.Ytpbaimofffcnaaa
/- THE CELL 'sum', in the pinned program and in every row, IS THE sha256 OF THE DUMP (.gsa) THAT YtpbaimofffcnaaaProg.lean LOADS. Nothing in Lean hashes anything: it is a label: what it is worth is what the hold of that sum in a sandbox is worth. -/
noncomputable def Try.pinned : Pinned := { name := "ytpbaimofffcnaaa", sum := "ad99ccddd2670050c982edd0e85059cb59f7a80408039b4e68d0f0c3e20abbb8", checked := Try.checked }
namespace Rows
def none {H : Type} : Left H := { results := [], args := [] }

/-- 'laws.FnExactQueueValid': WHATEVER THE INPUT: true; the input reads as it did. -/
def fnExactQueueValidSpec : ChangeSpec := { name := "fnExactQueueValid", fn := fun _ => fun
  | [d] => { results := [.lit (.bool true)], args := [d] }
  | _ => none }
def fnExactQueueValidRow : OpenClaim := { program := "ytpbaimofffcnaaa", sum := "ad99ccddd2670050c982edd0e85059cb59f7a80408039b4e68d0f0c3e20abbb8", func := "loop.example/mailhost/laws.FnExactQueueValid", spec := "fnExactQueueValid", unfollowed := true, recurses := true, apart := false }
def FnExactQueueValidSaid : Prop := fnExactQueueValidRow.holds Try.pinned (OpenSpec.ofChange fnExactQueueValidSpec)

/-- ITS FALSE NEIGHBOUR: 'it returns false'. Refute it at one input. -/
def fnExactQueueValidWrong : ChangeSpec := { name := "fnExactQueueValid", fn := fun _ => fun
  | [d] => { results := [.lit (.bool false)], args := [d] }
  | _ => none }
def FnExactQueueValidWrongFalsely : Prop := fnExactQueueValidRow.holds Try.pinned (OpenSpec.ofChange fnExactQueueValidWrong)

/-- 'laws.FnQueuePart': WHATEVER THE INPUT: true; the input reads as it did. -/
def fnQueuePartSpec : ChangeSpec := { name := "fnQueuePart", fn := fun _ => fun
  | [d1, d2] => { results := [.lit (.bool true)], args := [d1, d2] }
  | _ => none }
def fnQueuePartRow : OpenClaim := { program := "ytpbaimofffcnaaa", sum := "ad99ccddd2670050c982edd0e85059cb59f7a80408039b4e68d0f0c3e20abbb8", func := "loop.example/mailhost/laws.FnQueuePart", spec := "fnQueuePart", unfollowed := true, recurses := true, apart := false }
def FnQueuePartSaid : Prop := fnQueuePartRow.holds Try.pinned (OpenSpec.ofChange fnQueuePartSpec)

/-- ITS FALSE NEIGHBOUR: 'it returns false'. Refute it at one input. -/
def fnQueuePartWrong : ChangeSpec := { name := "fnQueuePart", fn := fun _ => fun
  | [d1, d2] => { results := [.lit (.bool false)], args := [d1, d2] }
  | _ => none }
def FnQueuePartWrongFalsely : Prop := fnQueuePartRow.holds Try.pinned (OpenSpec.ofChange fnQueuePartWrong)

/-- 'laws.FnExactQueueLeft': WHATEVER THE INPUT: true; the input reads as it did. -/
def fnExactQueueLeftSpec : ChangeSpec := { name := "fnExactQueueLeft", fn := fun _ => fun
  | [d1, d2] => { results := [.lit (.bool true)], args := [d1, d2] }
  | _ => none }
def fnExactQueueLeftRow : OpenClaim := { program := "ytpbaimofffcnaaa", sum := "ad99ccddd2670050c982edd0e85059cb59f7a80408039b4e68d0f0c3e20abbb8", func := "loop.example/mailhost/laws.FnExactQueueLeft", spec := "fnExactQueueLeft", unfollowed := true, recurses := true, apart := false }
def FnExactQueueLeftSaid : Prop := fnExactQueueLeftRow.holds Try.pinned (OpenSpec.ofChange fnExactQueueLeftSpec)

/-- ITS FALSE NEIGHBOUR: 'it returns false'. Refute it at one input. -/
def fnExactQueueLeftWrong : ChangeSpec := { name := "fnExactQueueLeft", fn := fun _ => fun
  | [d1, d2] => { results := [.lit (.bool false)], args := [d1, d2] }
  | _ => none }
def FnExactQueueLeftWrongFalsely : Prop := fnExactQueueLeftRow.holds Try.pinned (OpenSpec.ofChange fnExactQueueLeftWrong)

/-- 'laws.FnLeft': WHATEVER THE INPUT: true; the input reads as it did. -/
def fnLeftSpec : ChangeSpec := { name := "fnLeft", fn := fun _ => fun
  | [d] => { results := [.lit (.bool true)], args := [d] }
  | _ => none }
def fnLeftRow : OpenClaim := { program := "ytpbaimofffcnaaa", sum := "ad99ccddd2670050c982edd0e85059cb59f7a80408039b4e68d0f0c3e20abbb8", func := "loop.example/mailhost/laws.FnLeft", spec := "fnLeft", unfollowed := true, recurses := true, apart := false }
def FnLeftSaid : Prop := fnLeftRow.holds Try.pinned (OpenSpec.ofChange fnLeftSpec)

/-- ITS FALSE NEIGHBOUR: 'it returns false'. Refute it at one input. -/
def fnLeftWrong : ChangeSpec := { name := "fnLeft", fn := fun _ => fun
  | [d] => { results := [.lit (.bool false)], args := [d] }
  | _ => none }
def FnLeftWrongFalsely : Prop := fnLeftRow.holds Try.pinned (OpenSpec.ofChange fnLeftWrong)

/- THE SECOND FORM. 'bulk': how many values and letters a reading holds, each counted each time it is reached (what is shared counts as often as it is met; a slice's spare places count too). A statement '..UptoSaid' is the law's where the arguments, and the package variables that the reading takes, are together of bulk at most 1048576: NARROWER than '..Said'. Prove '..Said' where nothing that the law and all that it calls make is longer than what came in: it says more and counts as full. Else prove '..UptoSaid'. A law counts once. -/
mutual
def uptoBulk {H : Type} : DataW H → Nat
  | .lit (.string bytes) => bytes.length + 1
  | .lit _ => 1
  | .nil => 1
  | .ptr d => uptoBulk d + 1
  | .slice elems spare => uptoBulkAll elems + uptoBulkAll spare + 1
  | .agg parts => uptoBulkAll parts + 1
  | .iface _ d => uptoBulk d + 1
  | .map entries => uptoBulkEntries entries + 1
  | .held _ => 1
def uptoBulkAll {H : Type} : List (DataW H) → Nat
  | [] => 0
  | d :: r => uptoBulk d + uptoBulkAll r
def uptoBulkEntries {H : Type} : List (Lit × DataW H) → Nat
  | [] => 0
  | x :: r => uptoBulkEntry x + uptoBulkEntries r
def uptoBulkEntry {H : Type} : Lit × DataW H → Nat
  | (.string bytes, d) => bytes.length + uptoBulk d + 1
  | (_, d) => uptoBulk d + 1
 end
def uptoSmall : (H : Type) → List (DataW H) → Bool := fun _ ds => decide (uptoBulkAll ds ≤ 1048576)
def OpenSpec.upto (s : _root_.Go.ChangeSpec) : _root_.Go.OpenSpec := { _root_.Go.OpenSpec.ofChange s with cond := some uptoSmall }

/-- 'laws.FnExactQueueValid', WHERE WHAT IT READS IS OF BULK AT MOST 1048576: true; the input reads as it did. -/
def fnExactQueueValidUptoRow : OpenClaim := { program := "ytpbaimofffcnaaa", sum := "ad99ccddd2670050c982edd0e85059cb59f7a80408039b4e68d0f0c3e20abbb8", func := "loop.example/mailhost/laws.FnExactQueueValid", spec := "fnExactQueueValid", unfollowed := true, recurses := true, apart := false, narrowed := true }
def FnExactQueueValidUptoSaid : Prop := fnExactQueueValidUptoRow.holds Try.pinned (OpenSpec.upto fnExactQueueValidSpec)

/-- 'laws.FnQueuePart', WHERE WHAT IT READS IS OF BULK AT MOST 1048576: true; the input reads as it did. -/
def fnQueuePartUptoRow : OpenClaim := { program := "ytpbaimofffcnaaa", sum := "ad99ccddd2670050c982edd0e85059cb59f7a80408039b4e68d0f0c3e20abbb8", func := "loop.example/mailhost/laws.FnQueuePart", spec := "fnQueuePart", unfollowed := true, recurses := true, apart := false, narrowed := true }
def FnQueuePartUptoSaid : Prop := fnQueuePartUptoRow.holds Try.pinned (OpenSpec.upto fnQueuePartSpec)

/-- 'laws.FnExactQueueLeft', WHERE WHAT IT READS IS OF BULK AT MOST 1048576: true; the input reads as it did. -/
def fnExactQueueLeftUptoRow : OpenClaim := { program := "ytpbaimofffcnaaa", sum := "ad99ccddd2670050c982edd0e85059cb59f7a80408039b4e68d0f0c3e20abbb8", func := "loop.example/mailhost/laws.FnExactQueueLeft", spec := "fnExactQueueLeft", unfollowed := true, recurses := true, apart := false, narrowed := true }
def FnExactQueueLeftUptoSaid : Prop := fnExactQueueLeftUptoRow.holds Try.pinned (OpenSpec.upto fnExactQueueLeftSpec)

/-- 'laws.FnLeft', WHERE WHAT IT READS IS OF BULK AT MOST 1048576: true; the input reads as it did. -/
def fnLeftUptoRow : OpenClaim := { program := "ytpbaimofffcnaaa", sum := "ad99ccddd2670050c982edd0e85059cb59f7a80408039b4e68d0f0c3e20abbb8", func := "loop.example/mailhost/laws.FnLeft", spec := "fnLeft", unfollowed := true, recurses := true, apart := false, narrowed := true }
def FnLeftUptoSaid : Prop := fnLeftUptoRow.holds Try.pinned (OpenSpec.upto fnLeftSpec)

end Rows
end Go.Proofs.Ytpbaimofffcnaaa

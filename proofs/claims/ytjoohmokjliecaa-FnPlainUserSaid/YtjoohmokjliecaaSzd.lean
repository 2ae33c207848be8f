/- What counting sizes gives. -/
import Derived.Below
import Derived.Calls
namespace Go.Proofs.Ytjoohmokjliecaa
set_option linter.unusedVariables false
open Go.RowKit

/-- what counting gives: a number not above what was left; where it is not negative, Q holds -/
def Szd (left : Int) (Q : Prop) (w : World) (e : Ending) (w' : World) : Prop :=
  ∃ r : Int, e = .returned (.int .i64 r) ∧ -1 ≤ r ∧ r ≤ left ∧ (0 ≤ r → Q) ∧ Below w.heap.size w w'

end Go.Proofs.Ytjoohmokjliecaa

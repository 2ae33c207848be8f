/- markSubmission, markLetter, heldLetter of the laws. -/
import Derived.Test.YtnbggmmghopphaaGreatDoorStMk
namespace Go.Proofs.YtnbggmmghopphaaGreatDoor
set_option linter.unusedVariables false
open Go.RowKit

set_option maxHeartbeats 800000 in
theorem markSubmission_any (st : Int) (f t : ByteArray) (A : Option Addr) (us : List ByteArray) (c B q : Nat) (w : World) (h : St.Own w B (.slice A us.length c) us) (hq : 0 < q) (hn : q + us.length ≤ 100000000) :
    Calls Tryz.prog 54 #[.agg #[.int .i64 st, .string f, .slice A us.length c, .string t], .int .i64 (q : Int)] w (St.Mkd us q (.slice A us.length c) B w) := by
  go_enter Tryz.func54, Tryz.ntmps54
  go_wp2_with fail
  refine (markStringS_any A us c B q _ (OwnL.alloc h _) hq hn).mono ?_
  rintro e w1 ⟨rfl, ho, hg⟩
  go_wp2_with fail
  go_ret
  exact ⟨rfl, ho, (World.grownBy_alloc _ _ _).trans hg⟩

end Go.Proofs.YtnbggmmghopphaaGreatDoor

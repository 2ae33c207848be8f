/- FnExactRightsText: the walk. -/
import Derived.Test.YtmjpcfohgldpoaaRtText2
namespace Go.Proofs.Ytmjpcfohgldpoaa
set_option linter.unusedVariables false
open Go.RowKit

set_option maxHeartbeats 800000 in
theorem walkFnExactRightsText (r : Int) (w : World) (_hr : (Lit.int .i64 r).wf = true) :
    Calls Try.prog 4 #[.int .i64 r] w fun e w' => e = .returned (.bool true) ∧ Below w.heap.size w w' := by
  clear _hr
  go_enter Try.func4, Try.ntmps4
  go_wp2_with fail
  refine (sRightsText_any r _).mono ?_
  rintro e w1 ⟨rfl, hb1⟩
  go_wp2_with fail
  refine (iRightsText_any r _).mono ?_
  rintro e w2 ⟨rfl, hb2⟩
  go_wp2_with fail
  go_ret
  exact ⟨rfl, hb1.trans (hb2.mono hb1.size)⟩

end Go.Proofs.Ytmjpcfohgldpoaa

/- Letters that come in as plain data: sizes, copies, comparison. -/
import Derived.Test.YtpbaimofffcnaaaStX
namespace Go.Proofs.Ytpbaimofffcnaaa
set_option linter.unusedVariables false
open Go.RowKit


end Go.Proofs.Ytpbaimofffcnaaa

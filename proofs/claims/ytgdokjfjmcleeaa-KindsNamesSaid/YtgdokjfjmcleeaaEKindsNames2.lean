/- The call KindsNames, evaluated: a part. -/
import Derived.Test.YtgdokjfjmcleeaaProg
import Derived.Test.YtgdokjfjmcleeaaFk
import Derived.Test.YtgdokjfjmcleeaaEKindsNames0
namespace Go.Proofs.Ytgdokjfjmcleeaa.kindsNamesParts
open Go.Proofs.Ytgdokjfjmcleeaa Go.Proofs.Ytgdokjfjmcleeaa.Ce
open Go.RowKit
set_option maxRecDepth 1000000
set_option linter.unusedVariables false
set_option linter.unusedSimpArgs false
theorem run1 : acode Try.prog fs 30000 0 (tk 1 (dr 7 body)) st1 = some (0, st2) := by kernel_rfl
end Go.Proofs.Ytgdokjfjmcleeaa.kindsNamesParts

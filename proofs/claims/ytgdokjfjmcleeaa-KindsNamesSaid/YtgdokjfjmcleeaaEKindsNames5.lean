/- The call KindsNames, evaluated: a part. -/
import Derived.Test.YtgdokjfjmcleeaaProg
import Derived.Test.YtgdokjfjmcleeaaFk
import Derived.Test.YtgdokjfjmcleeaaEKindsNames0
namespace Go.Proofs.Ytgdokjfjmcleeaa.kindsNamesParts
open Go.Proofs.Ytgdokjfjmcleeaa Go.Proofs.Ytgdokjfjmcleeaa.Ce
open Go.RowKit
set_option maxRecDepth 1000000
set_option linter.unusedVariables false
set_option linter.unusedSimpArgs false
theorem frkA : (aops Try.prog fs 0 0 ops.toList (ops.toList.drop 23) (forkA op0 stB 276 34 4 1 60 4)).map (norm 276 stB.n) = some st4 := by kernel_rfl
end Go.Proofs.Ytgdokjfjmcleeaa.kindsNamesParts

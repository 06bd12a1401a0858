/- The call KindsNames, evaluated: a part. -/
import Derived.Test.YtgdokjfjmcleeaaProg
import Derived.Test.YtgdokjfjmcleeaaFk
import Derived.Test.YtgdokjfjmcleeaaEKindsNames0
namespace Go.Proofs.Ytgdokjfjmcleeaa.kindsNamesParts
open Go.Proofs.Ytgdokjfjmcleeaa Go.Proofs.Ytgdokjfjmcleeaa.Ce
open Go.RowKit
set_option maxRecDepth 1000000
set_option linter.unusedVariables false
set_option linter.unusedSimpArgs false
theorem run2 : acode Try.prog fs 30000 0 (tk 8 (dr 1 (dr 7 body))) st2 = some (0, st3) := by kernel_rfl
end Go.Proofs.Ytgdokjfjmcleeaa.kindsNamesParts

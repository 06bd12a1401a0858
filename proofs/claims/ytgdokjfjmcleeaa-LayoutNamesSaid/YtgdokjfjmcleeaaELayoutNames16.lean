/- The call LayoutNames, evaluated: part 16. -/
import Derived.Test.YtgdokjfjmcleeaaProg
import Derived.Test.YtgdokjfjmcleeaaCut
import Derived.Test.YtgdokjfjmcleeaaELayoutNames0
namespace Go.Proofs.Ytgdokjfjmcleeaa.layoutNamesParts
open Go.Proofs.Ytgdokjfjmcleeaa Go.Proofs.Ytgdokjfjmcleeaa.Ce
open Go.RowKit
set_option maxRecDepth 1000000
set_option linter.unusedVariables false
set_option linter.unusedSimpArgs false
theorem run15 : acode Try.prog fs 400 0 (dr 1 (dr 5 (dr 1 (dr 1 (dr 3 (dr 1 (dr 1 (dr 1 (dr 1 (dr 1 (dr 1 (dr 1 (dr 1 (dr 1 (dr 10 body))))))))))))))) st15 = some (1, st16) := by kernel_rfl
end Go.Proofs.Ytgdokjfjmcleeaa.layoutNamesParts

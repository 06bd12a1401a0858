/- The call PanicsNames, evaluated: a part. -/
import Derived.Test.YtcdedegjpfemmaaProg
import Derived.Test.YtcdedegjpfemmaaCut
import Derived.Test.YtcdedegjpfemmaaEPanicsNames1
namespace Go.Proofs.Ytcdedegjpfemmaa.panicsNamesParts
open Go.Proofs.Ytcdedegjpfemmaa Go.Proofs.Ytcdedegjpfemmaa.Ce
open Go.RowKit
set_option maxRecDepth 1000000
set_option linter.unusedVariables false
set_option linter.unusedSimpArgs false
theorem run0 : acode Try.prog fs 400 0 (tk 3 body) st0 = some (0, st1) := by kernel_rfl
end Go.Proofs.Ytcdedegjpfemmaa.panicsNamesParts

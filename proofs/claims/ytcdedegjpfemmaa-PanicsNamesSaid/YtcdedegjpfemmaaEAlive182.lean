/- The call Alive18, evaluated: a part. -/
import Derived.Test.YtcdedegjpfemmaaProg
import Derived.Test.YtcdedegjpfemmaaCut
import Derived.Test.YtcdedegjpfemmaaEAlive180
namespace Go.Proofs.Ytcdedegjpfemmaa.alive18Parts
open Go.Proofs.Ytcdedegjpfemmaa Go.Proofs.Ytcdedegjpfemmaa.Ce
open Go.RowKit
set_option maxRecDepth 1000000
set_option linter.unusedVariables false
set_option linter.unusedSimpArgs false
theorem run1 : acode Try.prog fs 400 0 (tk 1 (dr 2 body)) st1 = some (0, st2) := by kernel_rfl
end Go.Proofs.Ytcdedegjpfemmaa.alive18Parts

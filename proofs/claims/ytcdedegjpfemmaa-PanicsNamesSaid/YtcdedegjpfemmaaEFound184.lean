/- The call Found18, evaluated: a part. -/
import Derived.Test.YtcdedegjpfemmaaProg
import Derived.Test.YtcdedegjpfemmaaCut
import Derived.Test.YtcdedegjpfemmaaEFound180
namespace Go.Proofs.Ytcdedegjpfemmaa.found18Parts
open Go.Proofs.Ytcdedegjpfemmaa Go.Proofs.Ytcdedegjpfemmaa.Ce
open Go.RowKit
set_option maxRecDepth 1000000
set_option linter.unusedVariables false
set_option linter.unusedSimpArgs false
theorem run3 : acode Try.prog fs 400 0 (dr 1 (dr 2 (dr 3 body))) st3 = some (1, st4) := by kernel_rfl
end Go.Proofs.Ytcdedegjpfemmaa.found18Parts

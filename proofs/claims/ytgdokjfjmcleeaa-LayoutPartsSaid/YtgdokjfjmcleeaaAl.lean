/- alive of law05, by the kernel. -/
import Derived.Test.YtgdokjfjmcleeaaTy
import Derived.Test.YtgdokjfjmcleeaaCm
namespace Go.Proofs.Ytgdokjfjmcleeaa.Ce
open Go.RowKit
set_option linter.unusedVariables false
set_option linter.unusedSimpArgs false
set_option maxRecDepth 100000
theorem alive5_true : isTrue (acall Try.prog WW 30000 50 0 33 [] [] 0) = true := by kernel_rfl
end Go.Proofs.Ytgdokjfjmcleeaa.Ce
